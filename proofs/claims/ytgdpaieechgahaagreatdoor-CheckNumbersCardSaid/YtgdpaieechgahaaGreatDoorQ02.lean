/-
  A scanner in memory; its method run, walked: how many bytes of some kinds stand somewhere. No condition.
-/
import Derived.Test.YtgdpaieechgahaaGreatDoorQ01
import Derived.Deep.QuietTactic
import Derived.BigQuiet
import Derived.IntWalk
import Derived.Handy
import Derived.Deep.LoopGhost
import Derived.Deep.DeepCutAuto
import Derived.Test.YtgdpaieechgahaaGreatDoorQ00
import Derived.Test.YtgdpaieechgahaaGreatDoorProg
namespace Go.Proofs.YtgdpaieechgahaaGreatDoor
open Go.RowKit
set_option linter.unusedVariables false
structure Scan (w:World) (b:Nat) (s:ByteArray):Prop where
 row:∃ arr T mb,w.heap[b]? = some (.cells arr T (0,0)) ∧ arr[0]? = some (.string s) ∧ (∀ j,j < 256 → arr[1 + j]? = some (.int .u8 (kindB j:Int))) ∧ arr[257]? = some (.map (some mb)) ∧ KeyMap w mb
theorem Scan.mods {w w':World} {b:Nat} {s:ByteArray} (h:Scan w b s) (hM:Mods [] w w'):Scan w' b s:=by
 obtain ⟨arr,T,mb,h1,h2,h3,h4,h5⟩:=h.row
 exact ⟨arr,T,mb,hM.heap h1 (by simp),h2,h3,h4,h5.mods hM (by simp)⟩
theorem Scan.text {w:World} {b:Nat} {s:ByteArray} (h:Scan w b s):w.cell? ⟨b,0,none⟩ = some (.string s):=by
 obtain ⟨arr,T,mb,h1,h2,-⟩:=h.row
 rw [za h1]; exact h2
theorem Scan.kind {w:World} {b:Nat} {s:ByteArray} (h:Scan w b s) (j:Nat) (hj:j < 256):w.cell? ⟨b,1 + j,none⟩ = some (.int .u8 (kindB j:Int)):=by
 obtain ⟨arr,T,mb,h1,h2,h3,-⟩:=h.row
 rw [za h1]; exact h3 j hj
theorem Scan.keys {w:World} {b:Nat} {s:ByteArray} (h:Scan w b s):∃ mb,w.cell? ⟨b,257,none⟩ = some (.map (some mb)) ∧ KeyMap w mb:=by
 obtain ⟨arr,T,mb,h1,h2,h3,h4,h5⟩:=h.row
 exact ⟨mb,by rw [za h1]; exact h4,h5⟩
theorem zgH {α:Type} (p:α → Bool):∀ (l:List α) (k:Nat),(∀ j,j < k → ∃ x,l[j]? = some x ∧ p x=true) → (l[k]? = none ∨ ∃ x,l[k]? = some x ∧ p x=false) → (l.takeWhile p).length=k
 | [],0,_,_ => rfl
 | [],k + 1,h,_ => by obtain ⟨x,hx,-⟩:=h 0 (by omega); simp at hx
 | a :: l,0,_,h => by
  rcases h with h | ⟨x,hx,hp⟩
  ·simp at h
  ·simp at hx; subst hx; simp [hp]
 | a :: l,k + 1,h,h2 => by
  obtain ⟨x,hx,hp⟩:=h 0 (by omega)
  simp at hx; subst hx
  rw [List.takeWhile_cons,if_pos hp,List.length_cons,zgH p l k (fun j hj => by simpa using h (j + 1) (by omega)) (by simpa using h2)]
def runL (p:UInt8 → Bool) (s:ByteArray) (at_:Nat):Nat:=((s.data.toList.drop at_).takeWhile p).length
theorem zcg (p:UInt8 → Bool) (s:ByteArray) (at_:Nat) (h:at_ ≤ s.size):at_ + runL p s at_ ≤ s.size:=by
 have h1:=zap p (s.data.toList.drop at_)
 have h2:(s.data.toList.drop at_).length=s.size - at_:=by rw [List.length_drop]; rfl
 unfold runL; omega
def Mask (m:Nat) (p:UInt8 → Bool):Prop:=m < 256 ∧ ∀ c:UInt8,(p c=true → ¬ bits .and .u8 (kindB c.toNat:Int) (m:Int)=0) ∧ (p c=false → bits .and .u8 (kindB c.toNat:Int) (m:Int)=0)
theorem zb0 (c:UInt8):(isLet c=true ∧ kindB c.toNat=2) ∨ (isLet c=false ∧ isDig c=true ∧ kindB c.toNat=4) ∨ (isLet c=false ∧ isDig c=false ∧ isBl c=true ∧ kindB c.toNat=1) ∨ (isLet c=false ∧ isDig c=false ∧ isBl c=false ∧ kindB c.toNat=0):=by
 simp only [isLet,isDig,isBl,kindB]
 generalize c.toNat=n
 by_cases h1:(97 ≤ n ∧ n ≤ 122) ∨ (65 ≤ n ∧ n ≤ 90) ∨ n=95
 ·left
  rw [if_pos h1]
  simp; omega
 ·right
  rw [if_neg h1]
  by_cases h2:48 ≤ n ∧ n ≤ 57
  ·left
   rw [if_pos h2]
   simp; omega
  ·right
   rw [if_neg h2]
   by_cases h3:n=32 ∨ n=9 ∨ n=10 ∨ n=13
   ·left; rw [if_pos h3]; simp; omega
   ·right; rw [if_neg h3]; simp; omega
theorem ziY {c:UInt8} (h:isLet c=true ∨ isDig c=true):isBl c=false:=by
 rcases h with h | h
 ·exact zjE h
 ·exact (zgC h).2
theorem zi8:Mask 6 isLD:=by
 refine ⟨by decide,fun c => ?_⟩
 rcases zb0 c with ⟨h1,h2⟩ | ⟨h1,h2,h3⟩ | ⟨h1,h2,h3,h4⟩ | ⟨h1,h2,h3,h4⟩ <;> simp only [isLD,Bool.true_or,Bool.false_or,Bool.or_false, *] <;> decide
theorem mask_dig:Mask 4 isDig:=by
 refine ⟨by decide,fun c => ?_⟩
 rcases zb0 c with ⟨h1,h2⟩ | ⟨h1,h2,h3⟩ | ⟨h1,h2,h3,h4⟩ | ⟨h1,h2,h3,h4⟩
 ·have:isDig c=false:=by
   cases hd:isDig c with
   | false => rfl
   | true => rw [(zgC hd).1] at h1; cases h1
  simp only [*]; decide
 all_goals simp only [*]; decide
theorem mask_let:Mask 2 isLet:=by
 refine ⟨by decide,fun c => ?_⟩
 rcases zb0 c with ⟨h1,h2⟩ | ⟨h1,h2,h3⟩ | ⟨h1,h2,h3,h4⟩ | ⟨h1,h2,h3,h4⟩ <;> simp only [*] <;> decide
theorem zgI:Mask 1 isBl:=by
 refine ⟨by decide,fun c => ?_⟩
 rcases zb0 c with ⟨h1,h2⟩ | ⟨h1,h2,h3⟩ | ⟨h1,h2,h3,h4⟩ | ⟨h1,h2,h3,h4⟩
 ·have:=ziY (.inl h1); simp only [*]; decide
 ·have:=ziY (.inr h2); simp only [*]; decide
 all_goals simp only [*]; decide
theorem s_at (s:ByteArray) (k:Nat) (h:k < s.size):s.data.toList[k]? = some s[k]:=Lib.data_getElem? s k h
set_option maxRecDepth 100000 in
set_option maxHeartbeats 1000000 in
theorem zbx (w:World) (b:Nat) (s:ByteArray) (hS:Scan w b s) (hs:s.size ≤ 9223372036854775807) (at_:Nat) (hat:at_ ≤ s.size) (m:Nat) (p:UInt8 → Bool) (hm:Mask m p) :
  Calls Tryz.prog 37 #[.pointer (some ⟨b,0,none⟩),.int .i64 at_,.int .u8 m] w fun e w' => e = .returned (.int .i64 (runL p s at_)) ∧ Mods [] w w':=by
 have HM:=Lib.hid hm
 have HS:=Lib.hid hS
 clear hm hS
 go_enter Tryz.func37, Tryz.ntmps37
 go_wp2_with fail
 go_loopw [7] (fun t7 wr => ∃ k:Nat,at_ + k ≤ s.size ∧ t7 = .int .i64 k ∧ Mods [] w wr ∧ Hid (∀ j,j < k → ∃ x,s.data.toList[at_ + j]? = some x ∧ p x=true)) (fun t7 _ => s.size - (intOf t7).toNat)
 case atStart => exact ⟨0,by omega,rfl,Mods.refl _ _,Lib.hid (fun j hj => by omega)⟩
 case round =>
  obtain ⟨k,hk,rfl,hM,hP⟩:=hrel
  have hSr:=HS.out.mods hM
  have c0:=hSr.text
  have e1:IntKind.i64.wrap ((at_:Int) + (k:Int))=(at_:Int) + (k:Int):=IntWalk.i64_in _ (by omega)
  by_cases hlt:at_ + k < s.size
  ·have e2:(0:Int) ≤ (at_:Int) + (k:Int):=by omega
   have e3:((at_:Int) + (k:Int)).toNat=at_ + k:=by omega
   have hd:decide ((at_:Int) + (k:Int) < (s.size:Int))=true:=by simp; omega
   have hx:=s_at s (at_ + k) hlt
   obtain ⟨x,hx'⟩ : ∃ x,s[at_ + k]=x:=⟨_,rfl⟩
   rw [hx'] at hx
   have hx256:=UInt8.toNat_lt x
   have hkd:=hSr.kind x.toNat (by omega)
   have hxz:(x.toNat:Int) < 256:=by omega
   have HX:=Lib.hid hx
   cases hpx:p x with
   | true =>
    have hbit:(bits .and .u8 (kindB x.toNat:Int) (m:Int) != 0)=true:=by rw [bne_iff_ne]; exact (HM.out.2 x).1 hpx
    have HPX:=Lib.hid hpx
    clear hx hpx
    go_wp2_with fail
    go_quiet (fail)
    have hMy:=hM.drewN nq
    generalize wr.drewN nq=wy at *
    clear e1 e2 e3
    go_wp2_with fail
    go_roundw
    case measure => simp [intOf]; omega
    case rel =>
     refine ⟨k + 1,by omega,by go_num,hMy,Lib.hid (fun j hj => ?_)⟩
     by_cases hjk:j=k
     ·subst hjk; exact ⟨x,HX.out,HPX.out⟩
     ·exact hP.out j (by omega)
   | false =>
    have hbit:(bits .and .u8 (kindB x.toNat:Int) (m:Int) != 0)=false:=by rw [bne_eq_false_iff_eq]; exact (HM.out.2 x).2 hpx
    have fin:runL p s at_=k:=zgH p _ k (fun j hj => by rw [List.getElem?_drop]; exact hP.out j hj) (.inr ⟨x,by rw [List.getElem?_drop]; exact HX.out,hpx⟩)
    have FIN:=Lib.hid fin
    clear hx hpx fin
    go_wp2_with fail
    go_quiet (fail)
    have hMy:=hM.drewN nq
    generalize wr.drewN nq=wy at *
    clear e1 e2 e3
    go_wp2_with fail
    go_ret
    exact ⟨zbv (congrArg Int.ofNat FIN.out.symm),hMy⟩
  ·have hd:decide ((at_:Int) + (k:Int) < (s.size:Int))=false:=by simp; omega
   have fin:runL p s at_=k:=zgH p _ k (fun j hj => by rw [List.getElem?_drop]; exact hP.out j hj) (.inl (by rw [List.getElem?_drop,List.getElem?_eq_none]; show s.size ≤ _; omega))
   have FIN:=Lib.hid fin
   clear fin
   go_wp2_with fail
   go_quiet (fail)
   have hMy:=hM.drewN nq
   generalize wr.drewN nq=wy at *
   clear e1
   go_wp2_with fail
   go_ret
   exact ⟨zbv (congrArg Int.ofNat FIN.out.symm),hMy⟩
open Go.RowKit
set_option linter.unusedVariables false
abbrev tokCells (kind at_:Int) (s:ByteArray) (n scale:Int):Array Value:=#[.int .i64 kind,.int .i64 at_,.string s,.int .i64 n,.int .i64 scale]
theorem zP (k a:Int) (s:ByteArray) (n c:Int):(tokCells k a s n c).all (·.oneCell')=true:=by simp [Value.oneCell']
def tokV (o:Option (TokC × Nat)) (at_:Nat):Value:=
 match o with
 | none => .tuple #[.agg (tokCells 0 0 ⟨#[]⟩ 0 0),.int .i64 0]
 | some (t,n) => .tuple #[.agg (tokCells t.kind at_ ⟨t.s.toArray⟩ t.n t.scale),.int .i64 n]
def TokPost (w:World) (o:Option (TokC × Nat)) (at_:Nat) (e:Ending) (w':World):Prop:=e = .returned (tokV o at_) ∧ Mods [] w w'
theorem zg {P:Program} {fn:Func} {p q:Tmp} {ty:TypeId} (h:fn.results = #[.cell p ty,.tmp q]) (tmps:Array Value) (w:World) (g:Nat) (t:TypeId) (cs:Array Value) (fr:Nat × Nat) (d:TypeDesc)
  (hp:tmps.getD p undef = .pointer (some ⟨g,0,none⟩)) (hg:w.heap[g]? = some (.cells cs t fr))
  (hu:P.underlying ty=some d) (hd:(match d with | .struct _ | .array _ _ => true | _ => false)=true) (hi:(P.info? ty).map (·.size)=some cs.size) (v:Value) (hq:tmps.getD q undef=v) :
  (results fn tmps).run P w = .ok (.tuple #[.agg cs,v]) w:=by
 have hp':tmps[p]?.getD undef = .pointer (some ⟨g,0,none⟩):=by simpa using hp
 have hq':tmps[q]?.getD undef=v:=by simpa using hq
 simp [results,h,hp',hq',asAddr,run_loadVar_row w g t ty cs fr d hg hu hd hi]
theorem zaF (s:ByteArray) (a n:Nat):(s.extract a (a + n)).data.toList=(s.data.toList.drop a).take n:=by
 rw [Lib.extract_data,Nat.add_sub_cancel_left]
theorem zev {α:Type} (p:α → Bool) (l:List α):l.take (l.takeWhile p).length=l.takeWhile p:=by
 induction l with
 | nil => rfl
 | cons a l ih => rw [List.takeWhile_cons]; split <;> simp_all
theorem zic {a b:ByteArray} (h:a.data.toList=b.data.toList):a=b:=by
 obtain ⟨⟨x⟩⟩:=a; obtain ⟨⟨y⟩⟩:=b
 simp at h; rw [h]
theorem zfe {a:ByteArray} {l:List UInt8} (h:a.data.toList=l):a = ⟨l.toArray⟩:=zic (by simpa using h)
set_option maxRecDepth 100000 in
set_option maxHeartbeats 1000000 in
theorem zid (w:World) (b:Nat) (s:ByteArray) (hS:Scan w b s) (hs:s.size ≤ 4096) (at_:Nat) (hat:at_ ≤ s.size) :
  Calls Tryz.prog 72 #[.pointer (some ⟨b,0,none⟩),.int .i64 at_] w (TokPost w (wordL (s.data.toList.drop at_)) at_):=by
 obtain ⟨n,hn⟩ : ∃ n,runL isLD s at_=n:=⟨_,rfl⟩
 have hn1:=zcg isLD s at_ hat
 rw [hn] at hn1
 have hWl:(s.extract at_ (at_ + n)).data.toList=(s.data.toList.drop at_).takeWhile isLD:=by rw [zaF,← hn]; exact zev _ _
 have hWs:(s.extract at_ (at_ + n)).size=n:=by
  have e1:(s.extract at_ (at_ + n)).data.toList.length=n:=by rw [hWl]; exact hn
  exact e1
 have HWL:=Lib.hid hWl
 have HWS:=Lib.hid hWs
 have HN:=Lib.hid hn
 obtain ⟨U,hU⟩ : ∃ U:ByteArray,U = ⟨(Lib.toUpperA (s.extract at_ (at_ + n)).data.toList).toArray⟩:=⟨_,rfl⟩
 have hUl:U.data.toList=((s.data.toList.drop at_).takeWhile isLD).map upc:=by rw [hU]; show Lib.toUpperA _=_; rw [zdX,hWl]
 have HUL:=Lib.hid hUl
 have hup:=fun w1 => (Tryz.strings_ToUpper_ascii (s.extract at_ (at_ + n)) w1 (by rw [hWs]; omega) (fun j x hx => by
  rw [hWl] at hx
  exact zh4 (zgz (List.mem_of_getElem? hx)))).mono (fun e w' h => (⟨h.1.trans (by rw [hU]),Mods.of_below h.2 (Nat.le_refl _) []⟩ : e = .returned (.string U) ∧ Mods [] w1 w'))
 clear hWl hWs hU hUl
 have hrb:=heap_alloc_new w (.cells (tokCells 0 0 ⟨#[]⟩ 0 0) 68)
 have hM0:=(Mods.refl [] w).alloc (.cells (tokCells 0 0 ⟨#[]⟩ 0 0) 68)
 have hS0:=hS.mods hM0
 clear hS
 go_enter Tryz.func72, Tryz.ntmps72
 go_wp2_with fail
 generalize w.alloc (.cells (tokCells 0 0 ⟨#[]⟩ 0 0) 68)=w0 at *
 generalize hrbn:w.heap.size=rb at *
 have HRB:=Lib.hid hrbn
 clear hrbn
 refine (zbx w0 b s hS0 (by omega) at_ hat 6 isLD zi8).mono ?_
 rintro e w1 ⟨rfl,hM1⟩
 rw [hn]
 clear hn
 have hS1:=hS0.mods hM1
 have hrb1:=hM1.heap hrb (by simp)
 have hMw1:=hM0.trans hM1 (by simp)
 have c0:=hS1.text
 have hki:(at_:Int) + (n:Int) ≤ (s.size:Int):=by omega
 clear hS0 hrb hM0 hM1
 go_wp2_with fail
 refine (hup w1).mono ?_
 rintro e w2 ⟨rfl,hM2⟩
 have hS2:=hS1.mods hM2
 have hrb2:=hM2.heap hrb1 (by simp)
 have hMw2:=hMw1.trans hM2 (by simp)
 obtain ⟨mb,c257,hkm⟩:=hS2.keys
 have hlook:=hkm.look 107 9 159 Tryz.underlying107 Tryz.underlying9 (fun w => by kernel_rfl) U
 rw [HUL.out] at hlook
 obtain ⟨K,hK⟩ : ∃ K,isKey (((s.data.toList.drop at_).takeWhile isLD).map upc)=K:=⟨_,rfl⟩
 rw [hK] at hlook
 have HK:=Lib.hid hK
 have fin:=Lib.hid (show ∀ k,isKey (((s.data.toList.drop at_).takeWhile isLD).map upc)=k → wordL (s.data.toList.drop at_)=if k=true then some (⟨1,U.data.toList,0,0⟩,n) else if 40 < n then none else some (⟨2,(s.extract at_ (at_ + n)).data.toList,0,0⟩,n) by
  intro k hk
  have e1:((s.data.toList.drop at_).takeWhile isLD).length=n:=HN.out
  unfold wordL
  rw [hk,e1,HUL.out,HWL.out])
 have hinfo:(Tryz.prog.info? 68).map (·.size)=some 5:=by kernel_rfl
 have HM2:=Lib.hid hM2
 clear hK hS1 hS2 hrb1 hMw1 hkm hM2
 have hrb3:=((Mods.refl [] w2).alloc (.cells #[] 159)).heap hrb2 (by simp)
 have hMw3:=hMw2.alloc (.cells #[] 159)
 clear hrb2 hMw2
 have ends:∀ (o:Option (TokC × Nat)) (k:Bool),isKey (((s.data.toList.drop at_).takeWhile isLD).map upc)=k → (if k=true then some (⟨1,U.data.toList,0,0⟩,n) else if 40 < n then none else some (⟨2,(s.extract at_ (at_ + n)).data.toList,0,0⟩,n))=o → wordL (s.data.toList.drop at_)=o:=fun o k h1 h2 => (fin.out k h1).trans h2
 have HE:=Lib.hid ends
 clear ends
 cases K with
 | true =>
  go_wp2_with (refine wpList_store_row rfl 68 (.tmp 4) (.tmp 37) rfl rb (tokCells 1 at_ U 0 0) rfl rfl 68 _ hrb3 hinfo rfl (zP _ _ _ _ _) ?_)
  refine bodyPost_ret (zg rfl _ _ rb 68 (tokCells 1 at_ U 0 0) (0,0) _ rfl (zh _ hrb3) Tryz.underlying68 rfl hinfo _ rfl) rfl ?_
  rw [HE.out _ true HK.out rfl]
  exact ⟨rfl,hMw3.setRow (.inr (by rw [HRB.out]; exact Nat.le_refl _)) _⟩
 | false =>
  by_cases h40:40 < n
  ·have h40z:(40:Int) < (n:Int):=by omega
   have e:=HE.out none false HK.out (by rw [if_neg (by decide),if_pos h40])
   go_wp2_with (refine wpList_store_row rfl 68 (.tmp 4) (.tmp 41) rfl rb (tokCells 0 0 ⟨#[]⟩ 0 0) rfl rfl 68 _ hrb3 hinfo rfl (zP _ _ _ _ _) ?_)
   refine bodyPost_ret (zg rfl _ _ rb 68 (tokCells 0 0 ⟨#[]⟩ 0 0) (0,0) _ rfl (zh _ hrb3) Tryz.underlying68 rfl hinfo _ rfl) rfl ?_
   rw [e]
   exact ⟨rfl,hMw3.setRow (.inr (by rw [HRB.out]; exact Nat.le_refl _)) _⟩
  ·have h40z:¬ (40:Int) < (n:Int):=by omega
   have e:=Lib.hid (HE.out _ false HK.out (by rw [if_neg (by decide),if_neg h40]))
   go_wp2_with (refine wpList_store_row rfl 68 (.tmp 4) (.tmp 44) rfl rb (tokCells 2 at_ (s.extract at_ (at_ + n)) 0 0) rfl rfl 68 _ hrb3 hinfo rfl (zP _ _ _ _ _) ?_)
   refine bodyPost_ret (zg rfl _ _ rb 68 (tokCells 2 at_ (s.extract at_ (at_ + n)) 0 0) (0,0) _ rfl (zh _ hrb3) Tryz.underlying68 rfl hinfo _ rfl) rfl ?_
   rw [e.out]
   exact ⟨rfl,hMw3.setRow (.inr (by rw [HRB.out]; exact Nat.le_refl _)) _⟩
open Go.RowKit
set_option linter.unusedVariables false
theorem zb1:(Tryz.prog.info? 68).map (·.size)=some 5:=by kernel_rfl
theorem zew (s:ByteArray) (a:Nat):(s.extract a s.size).data.toList=s.data.toList.drop a:=Lib.extract_to_end s a
def NumRel (l:List UInt8) (D:ByteArray) (n sc:Nat):Prop:=D.data.toList=numDigits l ∧ n=numLen l ∧ sc=(fracL (l.dropWhile isDig)).length
theorem zex (s:ByteArray) (k:Nat):headLet (s.data.toList.drop k)=decide (0 < runL isLet s k):=by
 unfold runL
 cases s.data.toList.drop k with
 | nil => rfl
 | cons c r =>
  rw [List.takeWhile_cons]
  cases h:isLet c with
  | true => simp [headLet,h]
  | false => simp [headLet,h]
theorem zdm (l:List UInt8):Lib.hasPrefix l [46]=decide (l.head? = some 46):=by
 cases l with
 | nil => rfl
 | cons c r =>
  simp [Lib.hasPrefix,List.isPrefixOf]
  rw [Bool.eq_iff_iff]; simp; constructor <;> intro h <;> exact h.symm
theorem zd0 (l:List UInt8):(numDigits l).length ≤ numLen l:=by
 unfold numDigits numLen
 rw [List.length_append]
 split
 ·rename_i h; rw [h]; simp
 ·omega
theorem zdn (l:List UInt8):∀ x ∈ numDigits l,isDig x=true:=by
 intro x hx
 unfold numDigits at hx
 rcases List.mem_append.1 hx with h | h
 ·exact zgz h
 ·unfold fracL at h
  split at h
  ·exact zgz h
  ·simp at h
set_option maxRecDepth 100000 in
set_option maxHeartbeats 2000000 in
theorem zfO (w:World) (b:Nat) (s:ByteArray) (hS:Scan w b s) (hT:Tabs w) (hs:s.size ≤ 4096) (at_:Nat) (hat:at_ ≤ s.size) (h0:(s.data.toList.drop at_).takeWhile isDig ≠ []) :
  Calls Tryz.prog 73 #[.pointer (some ⟨b,0,none⟩),.int .i64 at_] w (TokPost w (numberL (s.data.toList.drop at_)) at_):=by
 obtain ⟨n,hn⟩ : ∃ n,runL isDig s at_=n:=⟨_,rfl⟩
 have hn1:=zcg isDig s at_ hat
 rw [hn] at hn1
 obtain ⟨l,hl⟩ : ∃ l,s.data.toList.drop at_=l:=⟨_,rfl⟩
 have hnl:(l.takeWhile isDig).length=n:=by rw [← hl]; exact hn
 have hDl:(s.extract at_ (at_ + n)).data.toList=l.takeWhile isDig:=by rw [zaF,hl,← hnl]; exact zev _ _
 have hRl:(s.extract (at_ + n) s.size).data.toList=l.dropWhile isDig:=by rw [zew,zY,hnl,← hl,List.drop_drop]
 have hpre:=fun w => (Tryz.strings_HasPrefix (s.extract (at_ + n) s.size) ⟨#[46]⟩ w).mono (fun e w' h => (⟨h.1,h.2.symm⟩ : _ ∧ w=w'))
 have hpe:Lib.hasPrefix (s.extract (at_ + n) s.size).data.toList (⟨#[46]⟩ : ByteArray).data.toList=decide ((l.dropWhile isDig).head? = some 46):=by rw [hRl]; exact zdm _
 rw [hl] at h0 ⊢
 have HL:=Lib.hid hl
 have HN:=Lib.hid hn
 have HNL:=Lib.hid hnl
 have HDL:=Lib.hid hDl
 have H0:=Lib.hid h0
 obtain ⟨PF,hPF⟩ : ∃ PF,decide ((l.dropWhile isDig).head? = some 46)=PF:=⟨_,rfl⟩
 rw [hpe,hPF] at hpre
 have HPF:=Lib.hid hPF
 clear hnl hDl hRl hl h0 hpe hPF
 have hrb:=heap_alloc_new w (.cells (tokCells 0 0 ⟨#[]⟩ 0 0) 68)
 have hM0:=(Mods.refl [] w).alloc (.cells (tokCells 0 0 ⟨#[]⟩ 0 0) 68)
 have hS0:=hS.mods hM0
 clear hS
 go_enter Tryz.func73, Tryz.ntmps73
 go_wp2_with fail
 generalize w.alloc (.cells (tokCells 0 0 ⟨#[]⟩ 0 0) 68)=w0 at *
 generalize hrbn:w.heap.size=rb at *
 have HRB:=Lib.hid hrbn
 clear hrbn
 refine (zbx w0 b s hS0 (by omega) at_ hat 4 isDig mask_dig).mono ?_
 rintro e w1 ⟨rfl,hM1⟩
 rw [hn]
 clear hn
 have hS1:=hS0.mods hM1
 have hrb1:=hM1.heap hrb (by simp)
 have hMw1:=hM0.trans hM1 (by simp)
 have c0:=hS1.text
 have hki:(at_:Int) + (n:Int) ≤ (s.size:Int):=by omega
 clear hS0 hrb hM0 hM1
 go_upto_if 31 with ((with_reducible refine (hpre _).mono ?_); rintro e w2 ⟨rfl,rfl⟩)
 go_cut [6,7,8] (fun s6 s7 s8 wx => ∃ (D:ByteArray) (k sc:Nat),s6 = .int .i64 k ∧ s7 = .string D ∧ s8 = .int .i64 sc ∧ Mods [] w1 wx ∧ NumRel l D k sc)
 case first =>
  cases PF with
  | false =>
   have hf:fracL (l.dropWhile isDig)=[]:=by unfold fracL; rw [if_neg (of_decide_eq_false HPF.out)]
   have fin:NumRel l (s.extract at_ (at_ + n)) n 0:=⟨by rw [HDL.out]; unfold numDigits; rw [hf,List.append_nil],by unfold numLen; rw [if_pos hf]; exact HNL.out.symm,by rw [hf]; rfl⟩
   go_wp2_with fail
   go_meet
   exact ⟨s.extract at_ (at_ + n),n,0,rfl,rfl,rfl,Mods.refl _ _,fin⟩
  | true =>
   have hh:=of_decide_eq_true HPF.out
   obtain ⟨r,hr⟩ : ∃ r,l.dropWhile isDig=46 :: r:=by
    cases hd:l.dropWhile isDig with
    | nil => rw [hd] at hh; simp at hh
    | cons c r => rw [hd] at hh; simp at hh; exact ⟨r,by rw [hh]⟩
   have hr2:s.data.toList.drop (at_ + n)=46 :: r:=by rw [← hr,zY,HNL.out,← HL.out,List.drop_drop]
   have hr3:s.data.toList.drop (at_ + n + 1)=r:=by rw [← List.drop_drop,hr2]; rfl
   have hlt:at_ + n < s.size:=by
    have:=congrArg List.length hr2
    rw [List.length_drop] at this
    have e1:s.data.toList.length=s.size:=rfl
    rw [e1] at this
    simp at this
    omega
   obtain ⟨sc,hsc⟩ : ∃ sc,runL isDig s (at_ + n + 1)=sc:=⟨_,rfl⟩
   have hsc1:=zcg isDig s (at_ + n + 1) (by omega)
   rw [hsc] at hsc1
   have hf:fracL (l.dropWhile isDig)=r.takeWhile isDig:=by rw [hr]; unfold fracL; rw [List.head?_cons,if_pos rfl]; rfl
   have hfl:(r.takeWhile isDig).length=sc:=by rw [← hr3]; exact hsc
   have hrun:=zbx w1 b s hS1 (by omega) (at_ + n + 1) (by omega) 4 isDig mask_dig
   have e1:((at_ + n + 1:Nat):Int)=(at_:Int) + (n:Int) + 1:=by omega
   rw [e1,hsc] at hrun
   have HF:=Lib.hid hf
   have HFL:=Lib.hid hfl
   have HR3:=Lib.hid hr3
   have hk2:(at_:Int) + (n:Int) + 1 + (sc:Int) ≤ (s.size:Int):=by omega
   clear hh hr hr2 hr3 hsc hf hfl e1
   go_wp2_with fail
   refine hrun.mono ?_
   rintro e w2 ⟨rfl,hM2⟩
   have hS2:=hS1.mods hM2
   have c2:=hS2.text
   clear hrun c0
   by_cases hs0:sc=0
   ·subst hs0
    have hf0:fracL (l.dropWhile isDig)=[]:=by rw [HF.out]; exact List.length_eq_zero_iff.1 HFL.out
    have fin:NumRel l (s.extract at_ (at_ + n)) n 0:=⟨by rw [HDL.out]; unfold numDigits; rw [hf0,List.append_nil],by unfold numLen; rw [if_pos hf0]; exact HNL.out.symm,by rw [hf0]; rfl⟩
    have FIN:=Lib.hid fin
    clear fin hf0
    go_wp2_with fail
    go_meet
    exact ⟨s.extract at_ (at_ + n),n,0,rfl,rfl,rfl,hM2,FIN.out⟩
   ·have hs0z:(0:Int) < (sc:Int):=by omega
    have hf0:fracL (l.dropWhile isDig) ≠ []:=by rw [HF.out]; intro h; have:=HFL.out; rw [h] at this; simp at this; omega
    have fin:NumRel l (s.extract at_ (at_ + n) ++ s.extract (at_ + n + 1) (at_ + n + 1 + sc)) (n + 1 + sc) sc:=by
     refine ⟨?_,by unfold numLen; rw [if_neg hf0,HNL.out,HF.out,HFL.out],by rw [HF.out]; exact HFL.out.symm⟩
     have e1:(s.extract at_ (at_ + n) ++ s.extract (at_ + n + 1) (at_ + n + 1 + sc)).data.toList=(s.extract at_ (at_ + n)).data.toList ++ (s.extract (at_ + n + 1) (at_ + n + 1 + sc)).data.toList:=by simp
     rw [e1,HDL.out,zaF,HR3.out,← HFL.out,zev,← HF.out]
     rfl
    have FIN:=Lib.hid fin
    have hsz1:(s.extract at_ (at_ + n)).size ≤ 4096:=by
     have e1:(s.extract at_ (at_ + n)).size=(s.extract at_ (at_ + n)).data.toList.length:=rfl
     rw [e1,HDL.out,HNL.out]; omega
    have hsz2:(s.extract (at_ + n + 1) (at_ + n + 1 + sc)).size ≤ 4096:=by
     have e1:(s.extract (at_ + n + 1) (at_ + n + 1 + sc)).size=(s.extract (at_ + n + 1) (at_ + n + 1 + sc)).data.toList.length:=rfl
     rw [e1,zaF,List.length_take]; omega
    have hcat:¬ 9223372036854775807 < (s.extract at_ (at_ + n)).size + (s.extract (at_ + n + 1) (at_ + n + 1 + sc)).size:=by omega
    clear fin hf0
    go_wp2_with fail
    go_meet
    exact ⟨_,n + 1 + sc,sc,by go_num,rfl,rfl,hM2,FIN.out⟩
 case rest =>
  obtain ⟨D,k,sc,rfl,rfl,rfl,hMc,hNum⟩:=hcut
  obtain ⟨hD,hk,hsc⟩:=hNum
  have hSc:=hS1.mods hMc
  have hMwc:=hMw1.trans hMc (by simp)
  have hrbc:=hMc.heap hrb1 (by simp)
  have hTc:=hT.mods hMwc
  have hll:l.length ≤ s.size - at_:=by rw [← HL.out,List.length_drop]; exact Nat.le_refl _
  have hkl:=zdU l
  rw [← hk] at hkl
  have hDl:D.size ≤ 4096:=by
   have e1:D.size=D.data.toList.length:=rfl
   have:=zd0 l
   rw [e1,hD]
   omega
  have hall:=zdn l
  have hne:numDigits l ≠ []:=by unfold numDigits; intro h; exact H0.out (List.append_eq_nil_iff.1 h).1
  have hpi:=zdW (numDigits l) hne hall
  rw [← hD] at hpi
  have hlr2:headLet (l.drop k)=decide (0 < runL isLet s (at_ + k)):=by rw [← HL.out,List.drop_drop]; exact zex _ _
  obtain ⟨V,hV⟩ : ∃ V,numVal D.data.toList=V:=⟨_,rfl⟩
  obtain ⟨R,hR⟩ : ∃ R,runL isLet s (at_ + k)=R:=⟨_,rfl⟩
  have fin:numberL l=if 9223372036854775807 < V ∨ 9 < sc ∨ 0 < R then none else some (⟨3,[],V,sc⟩,k):=by
   unfold numberL
   rw [← hD,← hsc,← hk,hlr2,hV,hR]
   simp
  have FIN:=Lib.hid fin
  rw [hV] at hpi
  have hrun:=fun w (hw:Scan w b s) => zbx w b s hw (by omega) (at_ + k) (by omega) 2 isLet mask_let
  rw [hR] at hrun
  have e1:((at_ + k:Nat):Int)=(at_:Int) + (k:Int):=by omega
  rw [e1] at hrun
  have hk2:(at_:Int) + (k:Int) ≤ (s.size:Int):=by omega
  have hinfo:=zb1
  have HRUN:=Lib.hid hrun
  clear hD hk hsc hlr2 fin hV hR e1 hMw1 hrb1 hS1 c0 hMc hpre hne hall hrun hll hkl
  by_cases hbig:9223372036854775807 < V
  ·rw [if_pos hbig] at hpi
   obtain ⟨-,ev,hv,hev⟩:=hTc
   have hpr:= Tryz.strconv_ParseInt_10_at64_range D (by omega) hpi ev wc hv hev
   have e:=FIN.out
   rw [if_pos (.inl hbig)] at e
   have HE:=Lib.hid e
   clear hpi hv hev e hbig
   go_wp2_with fail
   (with_reducible refine hpr.mono ?_)
   rintro e w3 ⟨N,rfl,-,-,hB3⟩
   have hM3:=Mods.of_below hB3 (Nat.le_refl _) []
   have hrb3:=hM3.heap hrbc (by simp)
   have hMw3:=hMwc.trans hM3 (by simp)
   clear hpr hB3 hM3
   go_wp2_with (refine wpList_store_row rfl 68 (.tmp 4) (.tmp 80) rfl rb (tokCells 0 0 ⟨#[]⟩ 0 0) rfl rfl 68 _ hrb3 hinfo rfl (zP _ _ _ _ _) ?_)
   refine bodyPost_ret (zg rfl _ _ rb 68 (tokCells 0 0 ⟨#[]⟩ 0 0) (0,0) _ rfl (zh _ hrb3) Tryz.underlying68 rfl hinfo _ rfl) rfl ?_
   rw [HE.out]
   exact ⟨rfl,hMw3.setRow (.inr (by rw [HRB.out]; exact Nat.le_refl _)) _⟩
  ·rw [if_neg hbig] at hpi
   have hpr:= Tryz.strconv_ParseInt_10_at64_ok D (by omega) (V:Int) hpi wc
   have hVz:(V:Int) ≤ 9223372036854775807:=by omega
   clear hpi hTc
   go_wp2_with fail
   (with_reducible refine hpr.mono ?_)
   rintro e w3 ⟨rfl,hB3⟩
   have hM3:Mods [] wc w3:=by
    rcases hB3 with rfl | ⟨t,rfl⟩
    ·exact Mods.refl _ _
    ·exact Mods.of_below (Lib.bytesWorld_below _ _ _) (Nat.le_refl _) []
   have hrb3:=hM3.heap hrbc (by simp)
   have hMw3:=hMwc.trans hM3 (by simp)
   have hSw3:=hSc.mods hM3
   clear hpr hB3 hM3
   by_cases h9:9 < sc
   ·have h9z:(9:Int) < (sc:Int):=by omega
    have e:=FIN.out
    rw [if_pos (.inr (.inl h9))] at e
    have HE:=Lib.hid e
    clear e
    go_wp2_with (refine wpList_store_row rfl 68 (.tmp 4) (.tmp 80) rfl rb (tokCells 0 0 ⟨#[]⟩ 0 0) rfl rfl 68 _ hrb3 hinfo rfl (zP _ _ _ _ _) ?_)
    refine bodyPost_ret (zg rfl _ _ rb 68 (tokCells 0 0 ⟨#[]⟩ 0 0) (0,0) _ rfl (zh _ hrb3) Tryz.underlying68 rfl hinfo _ rfl) rfl ?_
    rw [HE.out]
    exact ⟨rfl,hMw3.setRow (.inr (by rw [HRB.out]; exact Nat.le_refl _)) _⟩
   ·have h9z:¬ (9:Int) < (sc:Int):=by omega
    go_wp2_with fail
    refine (HRUN.out _ hSw3).mono ?_
    rintro e w4 ⟨rfl,hM4⟩
    have hrb4:=hM4.heap hrb3 (by simp)
    have hMw4:=hMw3.trans hM4 (by simp)
    clear hM4
    by_cases hR0:0 < R
    ·have hR0z:(0:Int) < (R:Int):=by omega
     have e:=FIN.out
     rw [if_pos (.inr (.inr hR0))] at e
     have HE:=Lib.hid e
     clear e
     go_wp2_with (refine wpList_store_row rfl 68 (.tmp 4) (.tmp 80) rfl rb (tokCells 0 0 ⟨#[]⟩ 0 0) rfl rfl 68 _ hrb4 hinfo rfl (zP _ _ _ _ _) ?_)
     refine bodyPost_ret (zg rfl _ _ rb 68 (tokCells 0 0 ⟨#[]⟩ 0 0) (0,0) _ rfl (zh _ hrb4) Tryz.underlying68 rfl hinfo _ rfl) rfl ?_
     rw [HE.out]
     exact ⟨rfl,hMw4.setRow (.inr (by rw [HRB.out]; exact Nat.le_refl _)) _⟩
    ·have hR0z:¬ (0:Int) < (R:Int):=by omega
     have e:=FIN.out
     rw [if_neg (by omega)] at e
     have HE:=Lib.hid e
     clear e
     go_wp2_with (refine wpList_store_row rfl 68 (.tmp 4) (.tmp 84) rfl rb (tokCells 3 at_ ⟨#[]⟩ V sc) rfl rfl 68 _ hrb4 hinfo rfl (zP _ _ _ _ _) ?_)
     refine bodyPost_ret (zg rfl _ _ rb 68 (tokCells 3 at_ ⟨#[]⟩ V sc) (0,0) _ rfl (zh _ hrb4) Tryz.underlying68 rfl hinfo _ rfl) rfl ?_
     rw [HE.out]
     exact ⟨rfl,hMw4.setRow (.inr (by rw [HRB.out]; exact Nat.le_refl _)) _⟩
open Go.RowKit
theorem zgJ:(Tryz.prog.info? 5).map (fun i => (i.zero,i.size,i.bytes))=some (some (.int .u8 0),1,1):=by kernel_rfl
end Go.Proofs.YtgdpaieechgahaaGreatDoor
