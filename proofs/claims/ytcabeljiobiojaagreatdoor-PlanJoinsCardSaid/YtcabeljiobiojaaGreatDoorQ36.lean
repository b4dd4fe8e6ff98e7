/-
  Slices that a call has just made, read as columns, tables, values, rows. It speaks of no program; no condition.
-/
import Derived.Test.YtcabeljiobiojaaGreatDoorQ35
set_option linter.unusedVariables false
namespace Go.Proofs.YtcabeljiobiojaaGreatDoor
open Go.RowKit
theorem ybv {p:Prop} (h:p:=by
  rw [List.length_eq_zero_iff.1 h0];exact ⟨none,0,rfl,fun h => absurd h AB⟩
 ):p:=h
open Go.Maps
theorem zm4 {α:Type} (f:α → List Value) (m:Nat) (hf:∀ x,(f x).length=m) (l:List α) (i:Nat) (h:i < l.length) (j:Nat) (hj:j < m):(l.flatMap f)[i * m + j]? = (f l[i])[j]?:=by
 induction l generalizing i with
 | nil => simp at h
 | cons x xs ih =>
  rw [List.flatMap_cons]
  cases i with
  | zero =>rw [Nat.zero_mul,Nat.zero_add,List.getElem?_append_left (by rw [hf]; exact hj)]; rfl
  | succ i =>rw [List.getElem?_append_right (by rw [hf,Nat.succ_mul]; omega),hf,show (i + 1) * m + j - m=i * m + j by rw [Nat.succ_mul]; omega];exact ih i AN
theorem zi6 {w:World} {b:Nat} {arr:Array Value} {T:TypeId} {fr:Nat × Nat} {cs:List Col} (h:w.heap[b]? = some (.cells arr T fr)) (ha:arr.toList=cs.flatMap colC):ColsIn w (some ⟨b,0,none⟩) cs []:=by intro _;refine ⟨b,0,rfl,by simp,fun i hi => ?_⟩;have g:=fun j (hj:j < 4) => zm4 colC 4 (fun _ => rfl) cs i hi j hj;rw [za h,za h,za h,za h,Nat.zero_add,← Array.getElem?_toList,← Array.getElem?_toList,← Array.getElem?_toList,← Array.getElem?_toList,ha];exact ⟨g 0 AA,g 1 AA,g 2 AA,g 3 AA⟩
theorem zm5 {w:World} {b:Nat} {co du:Option Addr} {n c m d:Nat} {T:TypeId} {fr:Nat × Nat} {t u:Tbl} (h:w.heap[b]? = some (.cells #[.string t.name,.slice co n c,.string u.name,.slice du m d] T fr)) (hn:t.cols.length=n) (hv:ColsIn w co t.cols []) (hm:u.cols.length=m) (hu:ColsIn w du u.cols []):TblsIn w (some ⟨b,0,none⟩) [t,u] []:=by
 intro _;refine ⟨b,0,rfl,by simp,fun i hi => ?_⟩;by_cases h0:i=0
 ·subst h0;refine ⟨by rw [za h]; rfl,co,c,?_,hv⟩;rw [za h];simp [hn]
 ·obtain rfl:i=1:=by simp at hi; omega
  refine ⟨by rw [za h]; rfl,du,d,?_,hu⟩;rw [za h];simp [hm]
def tabT:Tbl:=⟨⟨#[116]⟩,[⟨⟨#[97]⟩,1,0,false⟩,⟨⟨#[98]⟩,2,2,true⟩,⟨⟨#[99]⟩,3,0,true⟩,⟨⟨#[100]⟩,4,0,true⟩]⟩
def tabU:Tbl:=⟨⟨#[117]⟩,[⟨⟨#[120]⟩,1,0,true⟩,⟨⟨#[121]⟩,2,1,false⟩,⟨⟨#[122]⟩,3,0,false⟩]⟩
def tabsV:List Tbl:=[tabT,tabU]
theorem zjY:tabsV.map zax=tblsL:=by rfl
theorem tabs_right:TbsOk tabsV where
 ok:=by decide +kernel
 each:=by
  intro t ht;simp only [tabsV,List.mem_cons,List.not_mem_nil,or_false] at ht;rcases ht with rfl | rfl
  ·refine ⟨⟨by decide,by decide,fun c hc => ?_⟩,fun c hc => ?_⟩ <;> (simp only [tabT,List.mem_cons,List.not_mem_nil,or_false] at hc; rcases hc with rfl | rfl | rfl | rfl);all_goals first | exact ⟨⟨⟨by decide,by decide⟩,by decide,by decide⟩,by decide⟩ | exact ⟨by decide,by decide,by decide⟩
  ·refine ⟨⟨by decide,by decide,fun c hc => ?_⟩,fun c hc => ?_⟩ <;> (simp only [tabU,List.mem_cons,List.not_mem_nil,or_false] at hc; rcases hc with rfl | rfl | rfl);all_goals first | exact ⟨⟨⟨by decide,by decide⟩,by decide,by decide⟩,by decide⟩ | exact ⟨by decide,by decide,by decide⟩
 apart:=by
  intro i j hi hj hij c hc d hd;have h2:tabsV.length=2:=rfl;have hi2:i=0 ∨ i=1:=by omega
  have hj2:j=0 ∨ j=1:=by omega
  rcases hi2 with rfl | rfl <;> rcases hj2 with rfl | rfl
  ·exact absurd rfl hij
  ·have hc:c ∈ tabT.cols:=hc;have hd:d ∈ tabU.cols:=hd;simp only [tabT,tabU,List.mem_cons,List.not_mem_nil,or_false] at hc hd;rcases hc with rfl | rfl | rfl | rfl <;> rcases hd with rfl | rfl | rfl <;> decide
  ·have hc:c ∈ tabU.cols:=hc;have hd:d ∈ tabT.cols:=hd;simp only [tabT,tabU,List.mem_cons,List.not_mem_nil,or_false] at hc hd;rcases hc with rfl | rfl | rfl <;> rcases hd with rfl | rfl | rfl | rfl <;> decide
  ·exact absurd rfl hij
set_option maxRecDepth 100000 in
set_option maxHeartbeats 4000000 in
theorem tables15 (w:World):Calls Tryz.prog 7 #[] w fun e w' => ∃ b,e = .returned (.slice (some ⟨b,0,none⟩) 2 2) ∧ Mods [] w w' ∧ TblsIn w' (some ⟨b,0,none⟩) tabsV [] ∧ ∃ g d,w'.heap[b]? = some (.cells #[.string ⟨#[116]⟩,.slice (some ⟨g,0,none⟩) 4 4,.string ⟨#[117]⟩,d] 28 (0,0)) ∧ w'.heap[g]? = some (.cells #[.string ⟨#[97]⟩,.int .i64 1,.int .i64 0,.bool false,.string ⟨#[98]⟩,.int .i64 2,.int .i64 2,.bool true,.string ⟨#[99]⟩,.int .i64 3,.int .i64 0,.bool true,.string ⟨#[100]⟩,.int .i64 4,.int .i64 0,.bool true] 61 (0,0)):=by go_enter Tryz.func7, Tryz.ntmps7;go_wp2_with fail;go_ret;have hz:(w.alloc (.cells #[.int .i64 1,.int .i64 0] 59)).heap.size=w.heap.size + 1:=zl _ _;generalize hw1:w.alloc (.cells #[.int .i64 1,.int .i64 0] 59)=w1 at *;have hM1:Mods [] w w1:=hw1 ▸ (QM [] w).alloc _;rw [← hz];have hz2:(w1.alloc (.cells #[.string ⟨#[97]⟩,.int .i64 1,.int .i64 0,.bool false,.string ⟨#[98]⟩,.int .i64 2,.int .i64 2,.bool true,.string ⟨#[99]⟩,.int .i64 3,.int .i64 0,.bool true,.string ⟨#[100]⟩,.int .i64 4,.int .i64 0,.bool true] 61)).heap.size=w1.heap.size + 1:=zl _ _;have hB:=QN w1 (.cells #[.string ⟨#[97]⟩,.int .i64 1,.int .i64 0,.bool false,.string ⟨#[98]⟩,.int .i64 2,.int .i64 2,.bool true,.string ⟨#[99]⟩,.int .i64 3,.int .i64 0,.bool true,.string ⟨#[100]⟩,.int .i64 4,.int .i64 0,.bool true] 61);have hM2:=(QM [] w1).alloc (.cells #[.string ⟨#[97]⟩,.int .i64 1,.int .i64 0,.bool false,.string ⟨#[98]⟩,.int .i64 2,.int .i64 2,.bool true,.string ⟨#[99]⟩,.int .i64 3,.int .i64 0,.bool true,.string ⟨#[100]⟩,.int .i64 4,.int .i64 0,.bool true] 61);generalize w1.alloc (.cells #[.string ⟨#[97]⟩,.int .i64 1,.int .i64 0,.bool false,.string ⟨#[98]⟩,.int .i64 2,.int .i64 2,.bool true,.string ⟨#[99]⟩,.int .i64 3,.int .i64 0,.bool true,.string ⟨#[100]⟩,.int .i64 4,.int .i64 0,.bool true] 61)=w2 at *;rw [← hz2];have hz3:(w2.alloc (.cells #[.string ⟨#[120]⟩,.int .i64 1,.int .i64 0,.bool true,.string ⟨#[121]⟩,.int .i64 2,.int .i64 1,.bool false,.string ⟨#[122]⟩,.int .i64 3,.int .i64 0,.bool false] 61)).heap.size=w2.heap.size + 1:=zl _ _;have hC:=QN w2 (.cells #[.string ⟨#[120]⟩,.int .i64 1,.int .i64 0,.bool true,.string ⟨#[121]⟩,.int .i64 2,.int .i64 1,.bool false,.string ⟨#[122]⟩,.int .i64 3,.int .i64 0,.bool false] 61);have hM3:=(QM [] w2).alloc (.cells #[.string ⟨#[120]⟩,.int .i64 1,.int .i64 0,.bool true,.string ⟨#[121]⟩,.int .i64 2,.int .i64 1,.bool false,.string ⟨#[122]⟩,.int .i64 3,.int .i64 0,.bool false] 61);generalize w2.alloc (.cells #[.string ⟨#[120]⟩,.int .i64 1,.int .i64 0,.bool true,.string ⟨#[121]⟩,.int .i64 2,.int .i64 1,.bool false,.string ⟨#[122]⟩,.int .i64 3,.int .i64 0,.bool false] 61)=w3 at *;rw [← hz3];have hM4:=(QM [] w3).alloc (.cells #[.string ⟨#[116]⟩,.slice (some ⟨w1.heap.size,0,none⟩) 4 4,.string ⟨#[117]⟩,.slice (some ⟨w2.heap.size,0,none⟩) 3 3] 28);refine ⟨_,rfl,((hM1.trans hM2).trans hM3).trans hM4,zm5 (t:=tabT) (u:=tabU) (QN w3 _) rfl (zi6 (hM4.heap (hM3.heap hB AB)) rfl) rfl (zi6 (hM4.heap hC) rfl),w1.heap.size,_,QN w3 _,hM4.heap (hM3.heap hB AB)⟩
def butV:Option Nat → Int
 | none => -1
 | some k => (k:Nat)
def TRes (wB w:World) (sb rb mb:Nat) (env:List EC) (tb:List TblT) (r0:Chk Nat) (r:Ending) (w':World):Prop:=
 w'.heap[rb]? = w.heap[rb]? ∧ match r0 with
  | .bad p e => ∃ (z:Int) (cv':Value),r = .returned (.int .i64 z) ∧ ChkA wB w' sb rb cv' mb p e env
  | .ok k => r = .returned (.int .i64 (k:Nat)) ∧ ∃ cv',ChkA wB w' sb rb cv' mb 0 0 (env ++ zcC tb k)
theorem TbsOk.one {l:List Tbl} (h:TbsOk l) {k:Nat} (hk:k < l.length):tblOK l[k]=true:=by have h1:=h.ok;unfold zd4 at h1;simp only [Bool.and_eq_true] at h1;exact List.all_eq_true.1 h1.1 _ (List.getElem_mem hk)
theorem zna {l:List UInt8} (h:zbj l=true):l ≠ []:=by rintro rfl;exact absurd h AD
theorem zfn {l:List Tbl} {k:Nat} (hk:k < l.length):zcC (l.map zax) k=(zax l[k]).env:=by unfold zcC;rw [List.getD_eq_getElem?_getD,List.getElem?_map,List.getElem?_eq_getElem hk]; rfl
theorem TbsOk.parts {l:List Tbl} (h:TbsOk l) {k:Nat} (hk:k < l.length):l[k].nm ≠ [] ∧ l[k].cols.length ≤ 16 ∧ (l[k].cols.map Col.nm).Nodup ∧ ∀ c ∈ l[k].cols,c.good=true:=by have h1:=h.one hk;unfold tblOK at h1;simp only [Bool.and_eq_true,decide_eq_true_eq] at h1;exact ⟨zna h1.1,h1.2.2.1,h1.2.2.2.2,fun c hc => List.all_eq_true.1 h1.2.2.2.1 c hc⟩
theorem zf3 (wB w:World) (sb rb:Nat) (cv:Value) (mb:Nat) (env:List EC) (hC:ChkA wB w sb rb cv mb 0 0 env) (l:List Tbl) (hT:TbsOk l) (n:Nat) (hn:l.length=n) (ao:Option Addr) (cap:Nat) (hI:TblsIn w ao l (sb :: mb :: cv.ownBlock.toList))
  (s:Bs) (hs:s.length ≤ 5000) (at':Nat) (but:Option Nat) (henv:env.length ≤ 500) (hnew:∀ k (hk:k < l.length),but ≠ some k → ∀ c ∈ l[k].cols,∀ e ∈ env,e.name ≠ c.nm) :
  Calls Tryz.prog 27 #[zh sb,.slice ao n cap,.string ⟨s.toArray⟩,.int .i64 at',.int .i64 (butV but)] w (TRes wB w sb rb mb env (l.map zax) (zbd (l.map zax) s at' but)):=by
 have hA:=hC.adding;have hrl:rb < w.heap.size:=LL hC.rbl hC.mods.size;have hln:n ≤ 9223372036854775807:=by have h1:=hT.ok;unfold zd4 at h1;simp only [Bool.and_eq_true,decide_eq_true_eq] at h1;omega
 have hfr:∀ {w':World} {cv':Value} {p e:Nat} {env':List EC},Adding [rb] (sb :: mb :: cv.ownBlock.toList) w w' sb cv' mb 0 p e env' → w'.heap[rb]? = w.heap[rb]?:=fun h => h.mods.block rb hrl hC.rne
 cases hf:zbw (l.map zax) s with
 | none =>refine (zih [rb] _ w w sb cv mb 0 env hA l n hn hln ao cap hI s at' (butV but) hf).mono ?_;rintro r w' ⟨rfl,h⟩;refine ⟨hfr h,?_⟩;rw [show zbd (l.map zax) s at' but = .bad at' 13 by unfold zbd; rw [hf]];exact ⟨0,cv,rfl,hC.add h⟩
 | some k =>
  obtain ⟨hk,hnm⟩:=zd0 hf;by_cases hb:but=some k
  ·subst hb;refine (zii [rb] _ w w sb cv mb 0 env hA l n hn hln ao cap hI s at' k hf).mono ?_;rintro r w' ⟨rfl,h⟩;refine ⟨hfr h,?_⟩;rw [show zbd (l.map zax) s at' (some k) = .bad at' 4 by simp [zbd,hf]];exact ⟨k,cv,rfl,hC.add h⟩
  ·obtain ⟨h1,h2,h3,h4⟩:=hT.parts hk;have hbv:butV but ≠ (k:Int):=by
    cases but with
    | none => show (-1:Int) ≠ (k:Int); omega
    | some j => show (j:Int) ≠ (k:Int); intro h; exact hb (by rw [show j=k by omega])
   refine (zij [rb] _ w w sb cv mb 0 env hA l n hn hln ao cap hI s at' (butV but) k hf hbv (hnm ▸ h1) hs l[k] (List.getElem?_eq_getElem hk) AA (hT.each _ (List.getElem_mem hk)).2 (fun c hc e he => hnew k hk hb c hc e he) h3).mono ?_;rintro r w' ⟨rfl,cv',h⟩;refine ⟨hfr h,?_⟩;rw [show zbd (l.map zax) s at' but = .ok k by simp [zbd,hf,hb]];refine ⟨rfl,cv',?_⟩;rw [zfn hk];exact hC.add h
theorem zdF {l:List Tbl} {s:Bs} {pos:Nat} {but:Option Nat} {k:Nat} (h:zbd (l.map zax) s pos but = .ok k):k < l.length:=by
 unfold zbd at h
 cases hf:zbw (l.map zax) s with
 | none => rw [hf] at h; cases h
 | some j =>
  rw [hf] at h;simp only at h;split at h
  ·cases h
  ·cases h; exact (zd0 hf).1
theorem zdG {l:List Tbl} (h:TbsOk l) {k:Nat} (hk:k < l.length):zbT (zcC (l.map zax) k) ∧ (zcC (l.map zax) k).length ≤ 16:=by
 rw [zfn hk];obtain ⟨h1,h2,h3,h4⟩:=h.parts hk;refine ⟨fun e he => ?_,by simp [TblT.env,zax]; exact h2⟩;simp only [TblT.env,zax,List.map_map,List.mem_map] at he;obtain ⟨c,hc,rfl⟩:=he;have h5:=h4 c hc;have h6:=(h.each _ (List.getElem_mem hk)).2 c hc;unfold Col.good at h5;simp only [Bool.and_eq_true] at h5;have h7:=h5.2;unfold zaN at h7;simp only [Bool.or_eq_true,Bool.and_eq_true,beq_iff_eq,decide_eq_true_eq] at h7;show Ty.Right ⟨c.k.toNat,c.s.toNat⟩;rcases h7 with ⟨a,b,d⟩ | ⟨(a | a) | a,b⟩
 ·exact .inl ⟨by show c.k.toNat=2; omega,by show 1 ≤ c.s.toNat; omega,by show c.s.toNat ≤ 9; omega⟩
 ·exact .inr ⟨.inl (by show c.k.toNat=1; omega),by show c.s.toNat=0; omega⟩
 ·exact .inr ⟨.inr (.inl (by show c.k.toNat=3; omega)),by show c.s.toNat=0; omega⟩
 ·exact .inr ⟨.inr (.inr (by show c.k.toNat=4; omega)),by show c.s.toNat=0; omega⟩
theorem zlw {l:List Tbl} (h:TbsOk l) {k:Nat} (hk:k < l.length):∀ j (hj:j < l.length),some k ≠ some j → ∀ c ∈ l[j].cols,∀ e ∈ zcC (l.map zax) k,e.name ≠ c.nm:=by intro j hj hne c hc e he;rw [zfn hk] at he;simp only [TblT.env,zax,List.map_map,List.mem_map] at he;obtain ⟨d,hd,rfl⟩:=he;exact h.apart k j hk hj (fun h => hne (by rw [h])) d hd c hc
structure StartC (w wB:World) (sb rb mb:Nat) (q:zt) (gr:Bool):Prop where
 mods:Mods [] w wB
 sbw:w.heap.size ≤ sb
 mbw:w.heap.size ≤ mb
 rbw:w.heap.size ≤ rb
 ch:ChkA wB wB sb rb (.slice none 0 0) mb 0 0 []
 st:CSt wB rb 0 (-1) (.pointer none) (.pointer none) gr (.slice none 0 0) (.slice none 0 0) (.slice none 0 0) (.slice none 0 0) q.limit q.offset
theorem znb {w wB:World} {sb rb mb:Nat} {q:zt} {gr:Bool} (hM:Mods [] w wB) (hs:zaX wB sb (.slice none 0 0) mb 0 0 0) (hm:wB.heap[mb]? = some (.map #[] 0)) (hr:CSt wB rb 0 (-1) (.pointer none) (.pointer none) gr (.slice none 0 0) (.slice none 0 0) (.slice none 0 0) (.slice none 0 0) q.limit q.offset)
  (h1:w.heap.size ≤ mb) (h2:mb < sb) (h3:sb < rb):StartC w wB sb rb mb q gr:=
 ⟨hM,by omega,h1,by omega,⟨hs,⟨#[],0,hm,by show mb ∉ [sb,rb]; simp; omega,by simp,fun t n h => absurd rfl h,by simp⟩,⟨[],World.ownsRow_nil _ _ _ _,fun i hi => absurd hi AB⟩,QM _ _,(fun g hg => nomatch (show (none:Option Nat)=some g from hg)),zj hs,zj hm,zj hr,by omega⟩,hr⟩
theorem StartC.old {w wB W:World} {sb rb mb:Nat} {q:zt} {gr:Bool} (h:StartC w wB sb rb mb q gr) (hM:Mods [sb,mb,rb] wB W):Mods [] w W:=h.mods.trans hM (fun x hx => by
 simp at hx;rcases hx with rfl | rfl | rfl
 ·exact .inr h.sbw
 ·exact .inr h.mbw
 ·exact .inr h.rbw)
theorem StartC.tbls {w wB W:World} {sb rb mb:Nat} {q:zt} {gr:Bool} (h:StartC w wB sb rb mb q gr) {cv:Value} {p e:Nat} {env:List EC} (hC:ChkA wB W sb rb cv mb p e env) {ao:Option Addr} {l:List Tbl} (hI:TblsIn w ao l []):TblsIn W ao l (sb :: mb :: cv.ownBlock.toList):=
 (hI.apart (fun x hx => by
  rcases MC hx with rfl | hx
  ·exact h.sbw
  ·rcases MC hx with rfl | hx
   ·exact h.mbw
   ·exact Nat.le_trans h.mods.size (hC.own x AJ))).mods ((h.old hC.mods).mono)
theorem CSt.put0 {w:World} {rb:Nat} {lf rt:Int} {von vwh:Value} {gr:Bool} {vg its nms vo:Value} {lim off:Int} (h:CSt w rb lf rt von vwh gr vg its nms vo lim off) (z:Int):CSt (w.setCell ⟨rb,0,none⟩ (.int .i64 z)) rb z rt von vwh gr vg its nms vo lim off:=zb h 0 _
theorem CSt.put1 {w:World} {rb:Nat} {lf rt:Int} {von vwh:Value} {gr:Bool} {vg its nms vo:Value} {lim off:Int} (h:CSt w rb lf rt von vwh gr vg its nms vo lim off) (z:Int):CSt (w.setCell ⟨rb,1,none⟩ (.int .i64 z)) rb lf z von vwh gr vg its nms vo lim off:=zb h 1 _
theorem CSt.put2 {w:World} {rb:Nat} {lf rt:Int} {von vwh:Value} {gr:Bool} {vg its nms vo:Value} {lim off:Int} (h:CSt w rb lf rt von vwh gr vg its nms vo lim off) (z:Value):CSt (w.setCell ⟨rb,2,none⟩ z) rb lf rt z vwh gr vg its nms vo lim off:=zb h 2 _
theorem CSt.put3 {w:World} {rb:Nat} {lf rt:Int} {von vwh:Value} {gr:Bool} {vg its nms vo:Value} {lim off:Int} (h:CSt w rb lf rt von vwh gr vg its nms vo lim off) (z:Value):CSt (w.setCell ⟨rb,3,none⟩ z) rb lf rt von z gr vg its nms vo lim off:=zb h 3 _
theorem z9 (w:World) (rb k:Nat) (v:Value):Mods [rb] w (w.setCell ⟨rb,k,none⟩ v):=(QM _ _).setCell (.inl AB) _
theorem QBlk.start {wB w:World} {rb:Nat} {q:zt} {lf rt:Int} {von vwh:Value} {gr:Bool} {vg:Value} (h:CSt w rb lf rt von vwh gr vg (.slice none 0 0) (.slice none 0 0) (.slice none 0 0) q.limit q.offset) (hM:wB.heap.size ≤ w.heap.size):QBlk wB w rb q:=
 ⟨_,_,_,_,_,_,_,_,[],[],h,⟨hM,⟨[],World.ownsRow_nil _ _ _ _,fun L _ => trivial⟩,World.ownsRow_nil _ _ _ _,(fun g hg => nomatch (show (none:Option Nat)=some g from hg)),(fun g hg => nomatch (show (none:Option Nat)=some g from hg))⟩,rfl⟩
theorem zeB (wB w:World) (sb rb:Nat) (cv:Value) (mb pos e:Nat) (env:List EC) (hC:ChkA wB w sb rb cv mb pos e env) (hp:e=0 → pos=0) (hV:CkVars w) (hsg : 0 ≠ sb ∧ 2 ≠ sb) (v:Value) (o:Option Tree) (hO:OptAt w [sb] v o)
  (hX:∀ t,o=some t → e=0 → ExprOk sb cv mb env t 0):Calls Tryz.prog 28 #[zh sb,v] w (zch w sb cv mb pos e (zbB env o)):=by
 cases o with
 | none =>rw [show v = .pointer none from hO];exact zlf w sb cv mb pos e env hC.st
 | some t =>
  obtain ⟨b,rfl,hE⟩:=hO;by_cases he:e=0
  ·subst he;exact zlh w hV sb hsg cv mb pos env hC.scope b t hE (hX t rfl rfl)
  ·exact zlg w sb cv mb pos e env hC.st he b t
theorem QBlk.go {wB w w':World} {sb rb:Nat} {q:zt} (h:QBlk wB w rb q) (hM:Mods [sb] w w') (hs:sb < wB.heap.size) (hne:sb ≠ rb):QBlk wB w' rb q:=by obtain ⟨lf,rt,von,vwh,gr,vg,its,nms,ns,ss,h1,h2,h3⟩:=h;exact ⟨lf,rt,von,vwh,gr,vg,its,nms,ns,ss,hM.heap h1 (by simpa using Ne.symm hne),h2.go hM (by simpa using hs),h3⟩
theorem QBlk.put2 {wB w:World} {rb:Nat} {q:zt} (h:QBlk wB w rb q) (hr:rb < wB.heap.size) (v:Value):QBlk wB (w.setCell ⟨rb,2,none⟩ v) rb q:=by obtain ⟨lf,rt,von,vwh,gr,vg,its,nms,ns,ss,h1,h2,h3⟩:=h;exact ⟨lf,rt,_,vwh,gr,vg,its,nms,ns,ss,h1.put2 v,h2.go (z9 _ _ _ _) (by simpa using hr),h3⟩
theorem QBlk.put3 {wB w:World} {rb:Nat} {q:zt} (h:QBlk wB w rb q) (hr:rb < wB.heap.size) (v:Value):QBlk wB (w.setCell ⟨rb,3,none⟩ v) rb q:=by obtain ⟨lf,rt,von,vwh,gr,vg,its,nms,ns,ss,h1,h2,h3⟩:=h;exact ⟨lf,rt,von,_,gr,vg,its,nms,ns,ss,h1.put3 v,h2.go (z9 _ _ _ _) (by simpa using hr),h3⟩
theorem zbl {w:World} (hV:CkVars w) {x:Nat} (hx:w.heap.size ≤ x) : 0 ≠ x ∧ 2 ≠ x:=by have h1:=zio hV.1.1;have h2:=zio hV.2.1;exact ⟨by omega,by omega⟩
def GrI (wg wr:World) (sb rb:Nat) (cv:Value) (mb:Nat) (env:List EC) (q:zt) (lf rt:Int) (von vwh:Value) (gr:Bool) (i:Nat):Prop:=
 ∃ p e ks vg,Mods [sb,rb] wg wr ∧ zaX wr sb cv mb 0 p e ∧ CSt wr rb lf rt von vwh gr vg (.slice none 0 0) (.slice none 0 0) (.slice none 0 0) q.limit q.offset ∧
  wr.ownsRow 0 3 1 vg ks.length (ks.map fun k:Nat => Value.int .i64 (k:Nat)) ∧ (∀ g,vg.ownBlock=some g → wg.heap.size ≤ g) ∧ zai (zbe env (q.group.take i)) 0 0=(p,e) ∧ (e=0 → zbe env (q.group.take i) = .ok ks) ∧ ks.length ≤ i
theorem GrI.start {wg:World} {sb rb:Nat} {cv:Value} {mb:Nat} {env:List EC} {q:zt} {lf rt:Int} {von vwh:Value} {gr:Bool} (hS:zaX wg sb cv mb 0 0 0) (hC:CSt wg rb lf rt von vwh gr (.slice none 0 0) (.slice none 0 0) (.slice none 0 0) (.slice none 0 0) q.limit q.offset):GrI wg wg sb rb cv mb env q lf rt von vwh gr 0:=
 ⟨0,0,[],.slice none 0 0,QM _ _,hS,hC,World.ownsRow_nil _ _ _ _,(fun g hg => nomatch (show (none:Option Nat)=some g from hg)),rfl,fun _ => rfl,LR _⟩
theorem GrI.past {wg wr:World} {sb rb:Nat} {cv:Value} {mb:Nat} {env:List EC} {q:zt} {lf rt:Int} {von vwh:Value} {gr:Bool} {i p e:Nat} {ks:List Nat} {vg:Value} (hM:Mods [sb,rb] wg wr) (hS:zaX wr sb cv mb 0 p e) (hC:CSt wr rb lf rt von vwh gr vg (.slice none 0 0) (.slice none 0 0) (.slice none 0 0) q.limit q.offset)
  (ho:wr.ownsRow 0 3 1 vg ks.length (ks.map fun k:Nat => Value.int .i64 (k:Nat))) (hg:∀ g,vg.ownBlock=some g → wg.heap.size ≤ g) (hc:zai (zbe env (q.group.take i)) 0 0=(p,e)) (hl:ks.length ≤ i) (he:e ≠ 0) {t:Tree} (ht:q.group[i]? = some t):GrI wg wr sb rb cv mb env q lf rt von vwh gr (i + 1):=
 ⟨p,e,ks,vg,hM,hS,hC,ho,hg,by rw [zi2 hc ht,zbr _ he],fun h => absurd h he,by omega⟩
theorem GrI.push {wg w2 w3:World} {sb rb:Nat} {cv:Value} {mb:Nat} {env:List EC} {q:zt} {lf rt:Int} {von vwh:Value} {gr:Bool} {i:Nat} {ks:List Nat} {vg:Value} {h:Hd} {g cap n:Nat} (hM2:Mods [sb,rb] wg w2) (hS2:zaX w2 sb cv mb 0 (zai (zbF env h) 0 0).1 (zai (zbF env h) 0 0).2)
  (hC2:CSt w2 rb lf rt von vwh gr vg (.slice none 0 0) (.slice none 0 0) (.slice none 0 0) q.limit q.offset) (hg:∀ g,vg.ownBlock=some g → wg.heap.size ≤ g) (hc:zbe env (q.group.take i) = .ok ks) (hl:ks.length ≤ i) (ht:q.group[i]? = some (.leaf h)) (hs:sb < wg.heap.size) (hr:rb < wg.heap.size) (hne:sb ≠ rb) (hn:ks.length=n)
  (ho:w3.ownsRow 0 3 1 (.slice (some ⟨g,0,none⟩) (n + 1) cap) (n + 1) ((ks.map fun k:Nat => Value.int .i64 (k:Nat)) ++ [.int .i64 (colK env h 0:Nat)])) (hM3:Mods vg.ownBlock.toList w2 w3) (hg3:vg.ownBlock=some g ∨ w2.heap.size ≤ g) :
  GrI wg (w3.setCell ⟨rb,5,none⟩ (.slice (some ⟨g,0,none⟩) (n + 1) cap)) sb rb cv mb env q lf rt von vwh gr (i + 1):=by
 have hput:=z9 w3 rb 5 (.slice (some ⟨g,0,none⟩) (n + 1) cap);have hsn:sb ∉ vg.ownBlock.toList:=fun hm => by have:=hg sb AH; omega
 have hrn:rb ∉ vg.ownBlock.toList:=fun hm => by have:=hg rb AH; omega
 have hgg:wg.heap.size ≤ g:=by
  rcases hg3 with h1 | h1
  ·exact hg g h1
  ·exact Nat.le_trans hM2.size h1
 refine ⟨_,_,ks ++ [colK env h 0],_,(hM2.trans hM3 (fun x hx => .inr (hg x AJ))).trans hput,hput.heap (hM3.heap hS2 hsn) AS,zb (hM3.heap hC2 hrn) 5 _,?_,(fun x hx => by cases hx; exact hgg),?_,?_,by rw [List.length_append,hn]; show n + 1 ≤ i + 1; omega⟩
 ·rw [List.length_append,List.map_append,hn];exact zm ho hput (fun x hx hm => by cases hx; simp at hm; omega)
 ·have h1:=zi2 (pos:=0) (e:=0) (show zai (zbe env (q.group.take i)) 0 0=(0,0) by rw [hc]; rfl) ht;rw [h1]; rfl
 ·intro h0;rw [List.take_add_one,ht];show zbe env (q.group.take i ++ [Tree.leaf h])=_;rw [zfi,hc];obtain ⟨-,-,k,hk⟩:=zaU (p1:=(zai (zbF env h) 0 0).1) (fun p k hk => zgD hk) (show zai (zbF env h) 0 0=((zai (zbF env h) 0 0).1,0) from Prod.ext rfl h0);show ((zbF env h).bind fun k => .ok (ks ++ [k]))=_;rw [hk];show Chk.ok (ks ++ [k])=_;unfold colK;rw [hk]; rfl
theorem zlx {w:World} {vg:Value} {ks:List Nat} (h:w.ownsRow 0 3 1 vg ks.length (ks.map fun k:Nat => Value.int .i64 (k:Nat))) {L:List Nat} (hL:∀ g,vg.ownBlock=some g → g ∉ L):GroupAt w L vg ks:=by
 rcases h.2 with ⟨rfl,h0⟩ | ⟨g,cap,cur,rfl,hx⟩
 ·exact ybv
 ·refine ⟨_,_,rfl,fun _ => ⟨g,rfl,hL g rfl,fun i hi => ?_⟩⟩;have:=(zar h).2.2 i (.int .i64 (ks[i]:Nat)) (by rw [List.getElem?_map,List.getElem?_eq_getElem hi]; rfl);exact this
theorem zgS {α:Type} {r:Chk α} {pos p e:Nat} (h:zai r pos 0=(p,e)) (he:e ≠ 0):r = .bad p e:=by
 cases r with
 | ok a => rw [zaP] at h; cases h; exact absurd rfl he
 | bad a b => cases h; rfl
end Go.Proofs.YtcabeljiobiojaaGreatDoor
