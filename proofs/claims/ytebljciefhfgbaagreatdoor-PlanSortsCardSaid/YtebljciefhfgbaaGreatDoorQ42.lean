/-
  Rows that are collected: a slice of the call's own, of rows that lie elsewhere. No condition.
-/
import Derived.Test.YtebljciefhfgbaaGreatDoorQ41
set_option linter.unusedVariables false
set_option maxRecDepth 100000
set_option maxHeartbeats 4000000
namespace Go.Proofs.YtebljciefhfgbaaGreatDoor
open Go.RowKit
theorem ValsIn.weaken {w:World} {ao:Option Addr} {vs:List V} {L L':List Nat} (hL:∀ x ∈ L',x ∈ L) (h:ValsIn w ao vs L):ValsIn w ao vs L':=fun h0 => by obtain ⟨tb,off,h1,h2,h3⟩:=h h0;exact ⟨tb,off,h1,fun hm => h2 (hL _ hm),h3⟩
theorem ValsIn.fresh {w:World} {ao:Option Addr} {vs:List V} {L:List Nat} {g:Nat} (hg:w.heap.size ≤ g) (h:ValsIn w ao vs L):ValsIn w ao vs (g :: L):=fun h0 => by
 obtain ⟨tb,off,h1,h2,h3⟩:=h h0;refine ⟨tb,off,h1,fun hm => ?_,h3⟩;rcases MC hm with rfl | hm
 ·have:=zD (h3 0 (List.length_pos_iff.2 h0)).1;change tb < w.heap.size at this;omega
 ·exact h2 hm
def RowR:zel (List V):=fun w L cs r => ∃ vo c,cs=[.slice vo r.length c] ∧ r.length ≤ c ∧ ValsIn w vo r L
theorem rowRep:Rep RowR:=⟨fun ⟨vo,c,h1,h2,h3⟩ hM => ⟨vo,c,h1,h2,h3.mods hM⟩,fun hL ⟨vo,c,h1,h2,h3⟩ => ⟨vo,c,h1,h2,h3.weaken hL⟩,fun hg ⟨vo,c,h1,h2,h3⟩ => ⟨vo,c,h1,h2,h3.fresh hg⟩⟩
structure RowsC (w1 wr:World) (t:Value) (rs:List (List V)):Prop where
 size:w1.heap.size ≤ wr.heap.size
 row:∃ css,wr.ownsRow 0 39 1 t rs.length css.flatten ∧ ∀ L:List Nat,(∀ x ∈ L,x < w1.heap.size ∨ t.ownBlock=some x) → AllR RowR wr L css rs
 own:∀ g,t.ownBlock=some g → w1.heap.size ≤ g
theorem RowsC.start (w1:World):RowsC w1 w1 (.slice none 0 0) []:=
 ⟨LR _,⟨[],World.ownsRow_nil _ _ _ _,fun L _ => trivial⟩,fun g hg => nomatch (show (none:Option Nat)=some g from hg)⟩
theorem RowsC.later {w1 wr w':World} {t:Value} {rs:List (List V)} (h:RowsC w1 wr t rs) {Lw:List Nat} (hM:Mods Lw wr w') (hL:∀ x ∈ Lw,x < w1.heap.size):RowsC w1 w' t rs:=by
 obtain ⟨h1,⟨css,h2,h3⟩,h4⟩:=h;refine ⟨Nat.le_trans h1 hM.size,⟨css,zm h2 hM (fun g hg hm => by have:=h4 g hg; have:=hL g hm; omega),fun L hx => ?_⟩,h4⟩
 have h5:=h3 (L ++ Lw) (fun x hm => by
  rcases List.mem_append.1 hm with hm | hm
  ·exact hx x hm
  ·exact .inl (hL x hm))
 exact (h5.map fun c x hc => rowRep.mods hc (hM.mono (fun y hy => .inl (List.mem_append_right _ hy)))).map fun c x hc => rowRep.weaken (fun y hy => List.mem_append_left _ hy) hc
theorem RowsC.push {w1 wr w':World} {t:Value} {rs:List (List V)} (h:RowsC w1 wr t rs) {css:List (List Value)} (hrow:wr.ownsRow 0 39 1 t rs.length css.flatten) (hall:∀ L:List Nat,(∀ x ∈ L,x < w1.heap.size ∨ t.ownBlock=some x) → AllR RowR wr L css rs)
  {r:List V} {c:List Value} (hr:∀ L:List Nat,(∀ x ∈ L,x < w1.heap.size ∨ t.ownBlock=some x) → RowR wr L c r) {g cap k:Nat} (hk:rs.length=k)
  (hown:w'.ownsRow 0 39 1 (.slice (some ⟨g,0,none⟩) (k + 1) cap) (k + 1) (css.flatten ++ c)) (hM:Mods t.ownBlock.toList wr w') (hg:t.ownBlock=some g ∨ wr.heap.size ≤ g) :
  RowsC w1 w' (.slice (some ⟨g,0,none⟩) (k + 1) cap) (rs ++ [r]):=by
 subst hk;refine ⟨Nat.le_trans h.size hM.size,⟨css ++ [c],by simpa using hown,fun L hL => ?_⟩,fun x hx => ?_⟩
 ·have hL2:∀ x ∈ (L.filter (fun x => decide (x < w1.heap.size))) ++ t.ownBlock.toList,x < w1.heap.size ∨ t.ownBlock=some x:=fun x hx => by
   rcases List.mem_append.1 hx with hx | hx
   ·exact .inl (by simpa using (List.mem_filter.1 hx).2)
   ·exact .inr AJ
  have h1:=AllR.snoc (hr _ hL2) (hall _ hL2);rcases hg with hg | hg
  ·have h2:=h1.map (L':=L.filter (fun x => decide (x < w1.heap.size)) ++ t.ownBlock.toList) fun c x hc => rowRep.mods (w':=w') hc (hM.mono (fun y hy => .inl (List.mem_append_right _ hy)));refine h2.map fun c x hc => rowRep.weaken (fun y hy => ?_) hc;rcases hL y hy with h | h
   ·exact List.mem_append_left _ (List.mem_filter.2 ⟨hy,by simpa using h⟩)
   ·obtain rfl:g=y:=by simpa [Value.ownBlock] using h
    exact List.mem_append_right _ (by simp [hg])
  ·have h0:=h1.map (L':=g :: (L.filter (fun x => decide (x < w1.heap.size)) ++ t.ownBlock.toList)) fun c x hc => rowRep.fresh hg hc;have h2:=h0.map (L':=g :: (L.filter (fun x => decide (x < w1.heap.size)) ++ t.ownBlock.toList)) fun c x hc => rowRep.mods (w':=w') hc (hM.mono (fun y hy => .inl (CM _ (List.mem_append_right _ hy))));refine h2.map fun c x hc => rowRep.weaken (fun y hy => ?_) hc;rcases hL y hy with h | h
   ·exact CM _ (List.mem_append_left _ (List.mem_filter.2 ⟨hy,by simpa using h⟩))
   ·obtain rfl:g=y:=by simpa [Value.ownBlock] using h
    exact List.mem_cons_self
 ·obtain rfl:g=x:=by simpa [Value.ownBlock] using hx
  rcases hg with hg | hg
  ·exact h.own g hg
  ·exact Nat.le_trans h.size hg
theorem zqF (w:World) (rb:Nat) (ao:Option Addr) (cap:Nat) (row:Value) :
  Calls Tryz.prog 43 #[zh rb,.slice ao 0 cap,row] w fun e w' => e = .returned (.bool true) ∧ w'=w:=by
 unfold zh;go_enter Tryz.func43, Tryz.ntmps43;go_wp2_with fail;go_loopg [12] 0 (fun gk t12 wr => gk=0 ∧ t12 = .int .i64 0 ∧ w=wr)
 case atStart => exact ⟨rfl,rfl,rfl⟩
 obtain ⟨rfl,rfl,rfl⟩:=hrel;go_wp2_with fail;go_ret;exact ⟨rfl,rfl⟩
def zV3:Value:=.agg #[.bool false,.int .i64 0,.string ⟨#[]⟩]
theorem zqG:(Tryz.prog.info? 37).map (fun i => (i.zero,i.size,i.bytes))=some (some zV3,3,32):=by kernel_rfl
def mkC (n:Nat):Array Value:=madeCells zV3.cells (n * 3)
theorem zqH (w:World) (l n:Nat) (hl:l ≤ n) (h:n ≤ 1000) :
  (Instr.makeSlice 39 (.int .i64 l) (.int .i64 n)).run Tryz.prog w = .ok (.slice (some ⟨w.heap.size,0,none⟩) l n) (w.alloc (.cells (mkC n) 37)):=by
 obtain ⟨i0,hi,hz0,hz1,hz2⟩:=info_parts zqG;have:=run_make (P:= Tryz.prog) w 39 37 i0 zV3 Tryz.underlying39 hi hz0 .i64 .i64 l n AA AA (by rw [hz2]; omega) AA;rw [this,hz1];rfl
def zph (vs:List V):List Value:=vs.flatMap fun v => [.bool v.z,.int .i64 v.n,.string v.s]
theorem zpR (vs:List V):(zph vs).length=vs.length * 3:=by
 induction vs with
 | nil => rfl
 | cons v vs ih => simp only [zph,List.flatMap_cons,List.length_append,List.length_cons,List.length_nil] at ih ⊢; omega
theorem zpX {w:World} {tb:Nat}:∀ {vs:List V} {off:Nat},(∀ i (h:i < vs.length),w.cell? ⟨tb,off + i * 3,none⟩ = some (.bool vs[i].z) ∧ w.cell? ⟨tb,off + i * 3 + 1,none⟩ = some (.int .i64 vs[i].n) ∧ w.cell? ⟨tb,off + i * 3 + 2,none⟩ = some (.string vs[i].s)) →
  ∀ j u,(zph vs)[j]? = some u → w.cell? ⟨tb,off + j,none⟩ = some u:=by
 intro vs
 induction vs with
 | nil => intro off h j u hj; simp [zph] at hj
 | cons v vs ih =>
  intro off h j u hj;obtain ⟨h0,h1,h2⟩:=h 0 AB
  match j,hj with
  | 0,hj => cases (show some (Value.bool v.z)=some u from hj); exact h0
  | 1,hj => cases (show some (Value.int .i64 v.n)=some u from hj); exact h1
  | 2,hj => cases (show some (Value.string v.s)=some u from hj); exact h2
  | j + 3,hj =>
   have:=ih (off:=off + 3) (fun i hi => by
    have h:=h (i + 1) BH;rw [show off + (i + 1) * 3=off + 3 + i * 3 by omega] at h
    exact h) j u hj
   rw [show off + (j + 3)=off + 3 + j by omega];exact this
theorem zpw {w:World} {g:Nat}:∀ {vs:List V} {off:Nat},(∀ j u,(zph vs)[j]? = some u → w.cell? ⟨g,off + j,none⟩ = some u) →
  ∀ i (h:i < vs.length),w.cell? ⟨g,off + i * 3,none⟩ = some (.bool vs[i].z) ∧ w.cell? ⟨g,off + i * 3 + 1,none⟩ = some (.int .i64 vs[i].n) ∧ w.cell? ⟨g,off + i * 3 + 2,none⟩ = some (.string vs[i].s):=by
 intro vs
 induction vs with
 | nil => intro off h i hi; simp at hi
 | cons v vs ih =>
  intro off h i hi
  cases i with
  | zero => exact ⟨h 0 _ rfl,h 1 _ rfl,h 2 _ rfl⟩
  | succ i =>
   have:=ih (off:=off + 3) (fun j u hj => by
    have h:=h (j + 3) u hj;rw [show off + (j + 3)=off + 3 + j by omega] at h
    exact h) i BH
   rw [show off + (i + 1) * 3=off + 3 + i * 3 by omega];exact this
theorem zqn (vs:List V):∀ u ∈ zph vs,u.oneCell'=true:=by intro u hu;simp only [zph,List.mem_flatMap,List.mem_cons,List.not_mem_nil,or_false] at hu;obtain ⟨v,-,rfl | rfl | rfl⟩:=hu <;> rfl
theorem zqe {w:World} {g n cap:Nat} {vs:List V} {L:List Nat} (hn:vs.length=n) (h:w.ownsRow 0 37 3 (.slice (some ⟨g,0,none⟩) n cap) n (zph vs)) (hg:g ∉ L):ValsIn w (some ⟨g,0,none⟩) vs L:=
 fun _ => ⟨g,0,rfl,hg,zpw (off:=0) (fun j u hj => by rw [Nat.zero_add]; exact (zar h).2.2 j u hj)⟩
section
variable {α:Type} (ord:α → α → Int) (d:α)
def zpt (l:List α) (j:Nat):List α:=(l.set (j + 1) (l.getD j d)).set j (l.getD (j + 1) d)
def sinkL:Nat → List α → List α
 | 0,l => l
 | j + 1,l => if ord (l.getD (j + 1) d) (l.getD j d) < 0 then sinkL j (zpt d l j) else l
def insL:Nat → List α → List α
 | 0,l => l
 | k + 1,l => sinkL ord d (k + 1) (insL k l)
end
theorem zpo {α:Type} (d:α) (l:List α) (j:Nat):(zpt d l j).length=l.length:=by simp [zpt]
theorem zp1 {α:Type} (d:α) {l:List α} {j:Nat} (hj:j + 1 < l.length) {x:α} (h:x ∈ zpt d l j):x ∈ l:=by
 unfold zpt at h;have g:∀ i,i < l.length → l.getD i d ∈ l:=fun i hi => by rw [List.getD_eq_getElem?_getD,List.getElem?_eq_getElem hi]; exact List.getElem_mem hi
 rcases List.mem_or_eq_of_mem_set h with h | h
 ·rcases List.mem_or_eq_of_mem_set h with h | h
  ·exact h
  ·rw [h]; exact g j AA
 ·rw [h]; exact g (j + 1) hj
theorem zqI {α:Type} (ord:α → α → Int) (d:α):∀ (j:Nat) (l:List α),(sinkL ord d j l).length=l.length:=by
 intro j
 induction j with
 | zero => intro l; rfl
 | succ j ih => intro l; unfold sinkL; split; rw [ih,zpo]; rfl
theorem zpl {α:Type} (ord:α → α → Int) (d:α):∀ (k:Nat) (l:List α),(insL ord d k l).length=l.length:=by
 intro k
 induction k with
 | zero => intro l; rfl
 | succ k ih => intro l; unfold insL; rw [zqI,ih]
theorem zqJ {α:Type} (ord:α → α → Int) (d:α):∀ (j:Nat) (l:List α),j < l.length → ∀ x ∈ sinkL ord d j l,x ∈ l:=by
 intro j
 induction j with
 | zero => intro l _ x h; exact h
 | succ j ih =>
  intro l hj x h;unfold sinkL at h;split at h
  ·exact zp1 d hj (ih _ (by rw [zpo]; omega) x h)
  ·exact h
theorem zqf {α:Type} (ord:α → α → Int) (d:α):∀ (k:Nat) (l:List α),k < l.length ∨ k=0 → ∀ x ∈ insL ord d k l,x ∈ l:=by
 intro k
 induction k with
 | zero => intro l _ x h; exact h
 | succ k ih =>
  intro l hk x h;unfold insL at h;have hk:k + 1 < l.length:=by omega
  exact ih l AA x (zqJ ord d (k + 1) _ (by rw [zpl]; exact hk) x h)
theorem zpY {w:World} {T:TypeId} {g n cap:Nat} {xs:List Value} (h:w.ownsRow 0 T 1 (.slice (some ⟨g,0,none⟩) n cap) n xs) {j:Nat} (hj:j < n) (u:Value) (hu:u.oneCell'=true) :
  (w.setCell ⟨g,j,none⟩ u).ownsRow 0 T 1 (.slice (some ⟨g,0,none⟩) n cap) n (xs.set j u):=by
 refine ⟨by rw [List.length_set]; exact h.1,.inr ?_⟩;rcases h.2 with ⟨hv,-⟩ | ⟨g',cap',cur,hv,hb,hg,hnc,hcm,hcs,htake⟩
 ·cases hv
 ·cases hv;refine ⟨g,cap,cur.setIfInBounds j u,rfl,hb,zb hg j u,hnc,hcm,by simpa using hcs,?_⟩;rw [Array.toList_setIfInBounds,List.take_set,htake]
abbrev PR:=Value × List V
def dPR:PR:=(.bool false,[])
def ordP (ord:List V → List V → Int) (p q:PR):Int:=ord p.2 q.2
theorem zpZ {α:Type} {l:List α} {i:Nat} (h:i < l.length) (d:α):l.getD i d=l[i]:=by rw [List.getD_eq_getElem?_getD,List.getElem?_eq_getElem h]; rfl
theorem zpS {w:World} {T:TypeId} {g n cap:Nat} {xs:List Value} (h:w.ownsRow 0 T 1 (.slice (some ⟨g,0,none⟩) n cap) n xs) (j:Nat):w.frozen? ⟨g,j,none⟩ = false:=by
 rcases h.2 with ⟨hv,-⟩ | ⟨g',cap',cur,hv,hb,hg,hnc,hcm,hcs,htake⟩
 ·cases hv
 ·cases hv;exact zc hg j
theorem zqK (P:Program) (w:World) (b o:Nat) (v u:Value) (h1:v.oneCell'=true) (hc:w.cell? ⟨b,o,none⟩ = some u) (hf:w.frozen? ⟨b,o,none⟩ = false):Sem.run P (storeCells ⟨b,o,none⟩ [v]) w = .ok () (w.setCell ⟨b,o,none⟩ v):=by
 have hst:=run_store P w ⟨b,o,none⟩ v .plain h1;rw [hc] at hst;simp only [hf] at hst;have e0:(⟨b,o,none⟩ : Addr).add 0 = ⟨b,o,none⟩:=by simp [Addr.add]
 simp [storeCells,e0,hst]
theorem zrw (w:World) (rb g n cap:Nat) (ps:List PR) (hn:ps.length=n) (hn0:0 < n) (hn1:n ≤ 1000) (hown:w.ownsRow 0 39 1 (.slice (some ⟨g,0,none⟩) n cap) n (ps.map (·.1))) (hone:∀ p ∈ ps,p.1.oneCell'=true)
  (ord:List V → List V → Int) (hcmp:∀ W,Mods [g] w W → ∀ p ∈ ps,∀ q ∈ ps,Calls Tryz.prog 25 #[zh rb,p.1,q.1] W fun e w' => e = .returned (.int .i64 (ord p.2 q.2)) ∧ Mods [] W w') :
  Calls Tryz.prog 83 #[.slice (some ⟨g,0,none⟩) n cap,.int .i64 0,.int .i64 n,.func (.func 25) #[zh rb] #[]] w
   fun e w' => e = .returned (.tuple #[]) ∧ Mods [g] w w' ∧ w'.ownsRow 0 39 1 (.slice (some ⟨g,0,none⟩) n cap) n ((insL (ordP ord) dPR (n - 1) ps).map (·.1)):=by
 have HH:=QH (AI hn (AI hone (AI hcmp hown)));clear hn hone hcmp hown;unfold zh;go_enter Tryz.func83, Tryz.ntmps83;go_wp2_with fail;go_loopg [8] (n - 1) (fun gk t8 wr => ∃ i:Nat,i + gk=n ∧ 1 ≤ i ∧ t8 = .int .i64 i ∧ Mods [g] w wr ∧ wr.ownsRow 0 39 1 (.slice (some ⟨g,0,none⟩) n cap) n ((insL (ordP ord) dPR (i - 1) ps).map (·.1)))
 case atStart => exact ⟨1,by omega,by omega,rfl,QM _ _,HH.out.2.2.2⟩
 obtain ⟨i,hin,hi1,rfl,hM,hO⟩:=hrel;by_cases hlt:i < n
 ·obtain ⟨L0,hL0⟩:=EX (insL (ordP ord) dPR (i - 1) ps);have hsk:insL (ordP ord) dPR i ps=sinkL (ordP ord) dPR i L0:=by
   rw [← hL0];obtain ⟨k,rfl⟩ : ∃ k,i=k + 1:=⟨i - 1,by omega⟩;rfl
  have hl0:L0.length=n:=by rw [← hL0,zpl]; exact HH.out.1
  have hm0:∀ p ∈ L0,p ∈ ps:=by rw [← hL0]; exact zqf _ _ _ _ (.inl (by rw [HH.out.1]; omega))
  rw [hL0] at hO;have HR:=QH (AI hM (AI hsk (AI hl0 (AI hm0 hO))));clear hM hsk hl0 hm0 hO hL0;go_wp2_with fail;generalize wr=wo at *;go_loopg [9] i (fun gk2 t9 wx => ∃ l:List PR,t9 = .int .i64 gk2 ∧ gk2 ≤ i ∧ sinkL (ordP ord) dPR i L0=sinkL (ordP ord) dPR gk2 l ∧ l.length=n ∧ (∀ p ∈ l,p ∈ ps) ∧ Mods [g] w wx ∧ wx.ownsRow 0 39 1 (.slice (some ⟨g,0,none⟩) n cap) n (l.map (·.1)))
  case atStart => exact ⟨L0,rfl,LR _,rfl,HR.out.2.2.1,HR.out.2.2.2.1,HR.out.1,HR.out.2.2.2.2⟩
  obtain ⟨l,rfl,hji,hsk,hl,hmem,hM,hO⟩:=hrel;have hend:∀ L1,sinkL (ordP ord) dPR gk l=L1 → insL (ordP ord) dPR (i + 1 - 1) ps=L1:=fun L1 h => by rw [Nat.add_sub_cancel,HR.out.2.1,hsk,h]
  by_cases hj:gk=0
  ·subst hj;have HE:=QH (AI hM (AI hO (hend l rfl)));clear hM hO hsk hmem hend;go_upto_region 4 with fail;go_quiet (fail);have hMd:=HE.out.1.drewN nq;have hOd:=zm HE.out.2.1 ((QM [] wr).drewN nq) AB;generalize wr.drewN nq=w5 at *;have HD:=QH (AI hMd hOd);clear hMd hOd;go_wp2_with fail;go_roundg (n - (i + 1))
   case measure => omega
   case rel => exact ⟨i + 1,by omega,by omega,by go_num,HD.out.1,by rw [HE.out.2.2]; exact HD.out.2⟩
  ·obtain ⟨j,rfl⟩ : ∃ j,gk=j + 1:=⟨gk - 1,by omega⟩;have hj1:j + 1 < l.length:=by omega
   have hj0:j < l.length:=by omega
   have hx:=hmem l[j + 1] (List.getElem_mem hj1);have hy:=hmem l[j] (List.getElem_mem hj0);have k1:wr.cell? ⟨g,j + 1,none⟩ = some l[j + 1].1:=(zar hO).2.2 (j + 1) _ (by simp [hj1]);have k0:wr.cell? ⟨g,j,none⟩ = some l[j].1:=(zar hO).2.2 j _ (by simp [hj0]);have hca:=fun W (hW:Mods [] wr W) => HH.out.2.2.1 W (hM.trans (hW.mono) (fun x hx => .inl hx)) _ hx _ hy;have hox:=HH.out.2.1 _ hx;have hoy:=HH.out.2.1 _ hy;have hsw:sinkL (ordP ord) dPR (j + 1) l=if ord l[j + 1].2 l[j].2 < 0 then sinkL (ordP ord) dPR j (zpt dPR l j) else l:=by rw [sinkL];unfold ordP;rw [zpZ hj1,zpZ hj0]
   have hsl:zpt dPR l j=(l.set (j + 1) l[j]).set j l[j + 1]:=by unfold zpt; rw [zpZ hj1,zpZ hj0]
   have hln:=zpo dPR l j;have hmm:=fun x => zp1 dPR (x:=x) hj1;have hgj:(l.map (·.1))[j]? = some l[j].1:=by simp [hj0]
   generalize hxe:l[j + 1]=X at *;generalize hye:l[j]=Y at *;obtain ⟨xv,xr⟩:=X;obtain ⟨yv,yr⟩:=Y;obtain ⟨o,ho⟩:=EX (ord xr yr);simp only [ho] at hca hsw;unfold zh at hca;dsimp only at hca hsw hox hoy k0 k1 hgj;have F1:∀ k:zay wr,k.val.cell? ⟨g,j + 1,none⟩ = some xv:=fun k => k.mods.cell k1;have F2:∀ k:zay wr,k.val.cell? ⟨g,j,none⟩ = some yv:=fun k => k.mods.cell k0;have HK:=QH (fun k:zay wr => (hca k.val k.mods).mono fun e w' h => (show e=_ ∧ ∃ k':zay wr,w'=k'.val from ⟨h.1,⟨w',k.mods.trans h.2⟩,rfl⟩));have HE:=QH (AI hM (AI hO (AI hend (AI hsk (AI hsw (AI hsl (AI hln (AI hmm (AI hmem (AI hl (AI hox (AI hoy hgj))))))))))));have hg1:j + 1 < n:=by omega
   have hg0:j < n:=by omega
   clear hM hO hend hsk hsw hsl hln hmm hmem hl hox hoy hgj hca hx hy hxe hye ho hj1 hj0 hj;go_upto_region 4 with fail;refine zcK AC AC ?_;(repeat go_big_quiet_step (with_reducible exact HK.out _));refine QW ?_;rintro _ ⟨kk,rfl⟩;clear F1 F2;obtain ⟨hM,hO,hend,hsk,hsw,hsl,hln,hmm,hmem,hl,hox,hoy,hgj⟩:=HE.out;have hM5:=hM.trans (kk.mods.mono (L':=[g])) (fun x hx => .inl hx);have hO5:=zm hO kk.mods AB;have c1:=kk.mods.cell k1;have c0:=kk.mods.cell k0;clear k1 k0;generalize kk.val=w5 at *;by_cases hneg:o < 0
   ·rw [if_pos hneg,hsl] at hsw;rw [hsl] at hln hmm;have hO6:=zpY (zpY hO5 hg1 yv hoy) hg0 xv hox;have hM6:=(hM5.setCell (p:=⟨g,j + 1,none⟩) (.inl AB) yv).setCell (p:=⟨g,j,none⟩) (.inl AB) xv;clear HE;go_upto_region 6 with fail;apply zfv AC [2,3,4] [0,1,5,6,7,8,9,10,11,12,13,14] (.one 15 [] (.one 16 [] (.one 17 [] .fin))) [15,16,17] AC (fun y => y.cell? ⟨g,j + 1,none⟩ = some xv ∧ y.cell? ⟨g,j,none⟩ = some yv)
    case hC => exact ⟨c1,c0⟩
    case hfree =>intro y;change wpQuiet _ _ _ _ [_,_,_] (Act.mk _ _);(repeat go_big_quiet_step (fail));refine QW ?_;exact rfl
    case hwalk =>rintro y ⟨y1,y0⟩;change wpQuiet _ _ _ _ [_,_,_,_,_,_,_,_,_,_,_,_] (Act.mk _ _);(repeat go_big_quiet_step (fail));refine QW ?_;exact rfl
    case hrun =>
     change segV _ _ _ _ (.one _ _ [] (.one _ _ [] (.one _ _ [] .fin))) _ _;have HD:=QH (AI (hM5.drew) (zm hO5 (QM [] w5).drew AB));have d1:=(QM [] w5).drew.cell c1;have d0:=(QM [] w5).drew.cell c0;have f1:=zpS HD.out.2 (j + 1);have p1:=zqK Tryz.prog w5.drew g (j + 1) yv _ hoy d1 f1;clear hM6 hO6 hM5 hO5 c1 c0;generalize w5.drew=w6 at *;refine zu (zp fun R hR => ?_);go_wp2_with fail;rw [p1];go_wp2_with fail;refine zd (hR _ _ (.inl rfl) ?_);clear hR R;have HD2:=QH (AI (HD.out.1.setCell (p:=⟨g,j + 1,none⟩) (.inl AB) yv) (zpY HD.out.2 hg1 yv hoy));have e0:(w6.setCell ⟨g,j + 1,none⟩ yv).cell? ⟨g,j,none⟩ = some yv:=(zar HD2.out.2).2.2 j yv (by rw [List.getElem?_set_ne AA]; exact hgj);have f0:=zpS HD2.out.2 j;have p0:=zqK Tryz.prog _ g j xv _ hox e0 f0;clear HD d0 d1 f1 p1;generalize w6.setCell ⟨g,j + 1,none⟩ yv=w7 at *;refine zu (zp fun R hR => ?_);go_wp2_with fail;refine zd (hR _ _ (.inl rfl) ?_);clear hR R;refine zu (zp fun R hR => ?_);go_wp2_with fail;rw [p0];go_wp2_with fail;refine zd (hR _ _ (.inl rfl) ?_);clear hR R;have HD3:=QH (AI (HD2.out.1.setCell (p:=⟨g,j,none⟩) (.inl AB) xv) (zpY HD2.out.2 hg0 xv hox));clear HD2 e0 f0 p0;generalize w7.setCell ⟨g,j,none⟩ xv=w8 at *;refine zcr ?_;have hs2:sinkL (ordP ord) dPR i L0=sinkL (ordP ord) dPR j ((l.set (j + 1) (yv,yr)).set j (xv,xr)):=hsk.trans hsw;have hmp:((l.set (j + 1) (yv,yr)).set j (xv,xr)).map (·.1)=((l.map (·.1)).set (j + 1) yv).set j xv:=by simp [List.map_set]
     have HL:=QH (AI hs2 (AI (hln.trans hl) (AI (fun p hp => hmem p (hmm p hp)) hmp)));clear hs2 hmp hln hl hmm hmem hsk hsw hsl hend hM hO;go_wp2_with fail;go_roundg j
     case measure => omega
     case rel => exact ⟨_,by go_num,by omega,HL.out.1,HL.out.2.1,HL.out.2.2.1,HD3.out.1,by rw [HL.out.2.2.2]; exact HD3.out.2⟩
   ·rw [if_neg hneg] at hsw;have HD:=QH (AI hM5 (AI hO5 (hend l (hsk.symm ▸ hsw))));clear hM hO hend hsk hsw hsl hln hmm hmem hl hox hoy hgj hM5 hO5 HE;go_wp2_with fail;go_roundg (n - (i + 1))
    case measure => omega
    case rel => exact ⟨i + 1,by omega,by omega,by go_num,HD.out.1,by rw [HD.out.2.2]; exact HD.out.2.1⟩
 ·obtain rfl:n=i:=by omega
  have HZ:=QH (AI hM hO);clear hM hO;go_wp2_with fail;go_end0;exact ⟨rfl,HZ.out.1,HZ.out.2⟩
theorem zrf (w:World) (ao:Option Addr) (cap rb:Nat) :
  Calls Tryz.prog 83 #[.slice ao 0 cap,.int .i64 0,.int .i64 (0:Nat),.func (.func 25) #[zh rb] #[]] w fun e w' => e = .returned (.tuple #[]) ∧ w'=w:=by
 unfold zh;go_enter Tryz.func83, Tryz.ntmps83;go_wp2_with fail;go_loopg [8] 0 (fun gk t8 wr => t8 = .int .i64 1 ∧ w=wr)
 case atStart => exact ⟨rfl,rfl⟩
 obtain ⟨rfl,rfl⟩:=hrel;go_wp2_with fail;go_end0;exact ⟨rfl,rfl⟩
theorem zqo (w:World) (x fv:Value) (n:Nat) (hn:n ≤ 19) (R:World → Prop)
  (hins:Calls Tryz.prog 83 #[x,.int .i64 0,.int .i64 n,fv] w fun e w' => e = .returned (.tuple #[]) ∧ R w') :
  Calls Tryz.prog 47 #[x,.int .i64 n,fv] w fun e w' => e = .returned (.tuple #[]) ∧ R w':=by
 have HI:=QH hins;clear hins;go_enter Tryz.func47, Tryz.ntmps47;go_wp2_with fail;go_loopg [7,8] 0 (fun gk t7 t8 wr => t7 = .int .i64 0 ∧ t8 = .int .i64 20 ∧ w=wr)
 case atStart => exact ⟨rfl,rfl,rfl⟩
 obtain ⟨rfl,rfl,rfl⟩:=hrel;have hn20:¬ 20 ≤ n:=by omega
 have hn21:¬ 20 < n:=by omega
 go_wp2_with fail;refine HI.out.mono ?_;rintro e w2 ⟨rfl,hR⟩;have HR:=QH hR;clear hR;go_wp2_with fail;go_loopg [6,7,8,9] 0 (fun gk t6 t7 t8 t9 wr => t6 = .int .i64 20 ∧ w2=wr)
 case atStart => exact ⟨rfl,rfl⟩
 obtain ⟨rfl,rfl⟩:=hrel;go_wp2_with fail;go_end0;exact ⟨rfl,HR.out⟩
theorem zqg (w:World) (x:Option Addr) (n cap:Nat) (fv:Value) (hn:n ≤ 19) (R:World → Prop)
  (hins:Calls Tryz.prog 83 #[.slice x n cap,.int .i64 0,.int .i64 n,fv] w fun e w' => e = .returned (.tuple #[]) ∧ R w') :
  Calls Tryz.prog 24 #[.slice x n cap,fv] w fun e w' => e = .returned (.tuple #[]) ∧ R w':=by
 have HI:=QH (zqo w _ fv n hn R hins);clear hins;go_enter Tryz.func24, Tryz.ntmps24;go_wp2_with fail;refine HI.out.mono ?_;rintro e w2 ⟨rfl,hR⟩;have HR:=QH hR;clear hR;go_wp2_with fail;go_end0;exact ⟨rfl,HR.out⟩
def zpp (rs:List (List V)):Prop:=rs.length ≤ 1000 ∧ ∀ r ∈ rs,0 < r.length ∧ r.length ≤ 100
def FiltRes (w:World) (rs:List (List V)) (e:Ending) (w':World):Prop:=∃ t,e = .returned t ∧ Mods [] w w' ∧ RowsC w w' t rs
theorem zqp (w:World) (rb:Nat) (ao lo:Option Addr) (cap lc:Nat) (rs:List (List V)) (n:Nat) (hn:rs.length=n) (hI:RowsIn w ao rs []) (hF:zpp rs) :
  Calls Tryz.prog 37 #[zh rb,.slice ao n cap,.int .i64 0,.slice lo 0 lc] w (FiltRes w rs):=by
 obtain ⟨PP,hPP⟩:=EX (FiltRes w rs);rw [hPP];have hn1:n ≤ 1000:=by rw [← hn]; exact hF.1
 have HH:=QH (AI hPP (AI hI (AI hF hn)));clear hI hF hn hPP;obtain ⟨i0,hi,hz0,hz1,hz2⟩:=info_parts zqG;obtain ⟨j0,hj,hj0,hj1,hj2⟩:=info_parts (show (Tryz.prog.info? 39).map (fun i => (i.zero,i.size,i.bytes))=some (some (.slice none 0 0),1,24) by kernel_rfl);have HU:=QH (AI hi (AI hz0 (AI hz1 (AI hz2 (AI hj (AI hj0 (AI hj1 hj2)))))));clear hi hz0 hz1 hz2 hj hj0 hj1 hj2;unfold zh;go_enter Tryz.func37, Tryz.ntmps37;go_wp2_with fail;go_loopg [8,13] n (fun gk t8 t13 wr => ∃ i:Nat,i + gk=n ∧ t13 = .int .i64 i ∧ Mods [] w wr ∧ RowsC w wr t8 (rs.take i))
 case atStart => exact ⟨0,by omega,rfl,QM _ _,RowsC.start w⟩
 obtain ⟨i,hin,rfl,hM,hC⟩:=hrel;by_cases hlt:i < n
 ·have hil:i < rs.length:=by rw [HH.out.2.2.2]; exact hlt
  obtain ⟨b,off,rfl,-,hcs⟩:=HH.out.2.1 (fun h0 => by rw [h0] at hil; simp at hil);obtain ⟨vo,c,hc,k0,hV⟩:=hcs i hil;have hf:=HH.out.2.2.1.2 rs[i] (List.getElem_mem hil);have htk:rs.take (i + 1)=rs.take i ++ [rs[i]]:=List.take_succ_eq_append_getElem hil;have hlen:(rs.take i).length=i:=by rw [List.length_take]; omega
  generalize rs[i]=r at *;obtain ⟨m,hm⟩:=EX (r.length);rw [hm] at k0 hf hc;obtain ⟨tb,vof,rfl,-,hvs⟩:=hV (fun h0 => by rw [h0] at hm; simp at hm; omega);replace k0:=hM.cell k0;have hmk:∀ W,(Instr.makeSlice 39 (.int .i64 0) (.int .i64 (m:Nat))).run Tryz.prog W = .ok (.slice (some ⟨W.heap.size,0,none⟩) 0 m) (W.alloc (.cells (mkC m) 37)):=fun W => zqH W 0 m AA AA;have hcv:=zpX hvs;have hma:=(QM [] wr).alloc (.cells (mkC m) 37);have hown:(wr.alloc (.cells (mkC m) 37)).ownsRow 0 37 3 (.slice (some ⟨wr.heap.size,0,none⟩) 0 m) 0 []:=World.ownsRow_made wr (mkC m) m (Nat.zero_le _) BP (size_madeCells _ _);have hlit:∀ j u,(zph r)[j]? = some u → (wr.alloc (.cells (mkC m) 37)).cell? ((⟨tb,vof,none⟩ : Addr).add j)=some u:=fun j u hj => by rw [zci];exact (hM.trans hma).cell (hcv j u hj)
  have HR:=QH (AI hM (AI hC (AI htk (AI hlen (AI hm (AI hma (AI hown hlit)))))));have hm1:0 < m ∧ m ≤ 100:=hf;clear hM hC htk hlen hcs hc hV hf hvs hcv hma hown hlit hm hil;obtain ⟨hi,hz0,hz1,hz2,hj,hj0,hj1,hj2⟩:=HU.out;go_wp2_with (at_builtin; refine zw _ rfl _ _ 39 rfl 37 i0 _ 3 32 Tryz.underlying39 hi hz0 hz1 hz2 rfl AD (.slice (some ⟨wr.heap.size,0,none⟩) 0 m) 0 [] rfl HR.out.2.2.2.2.2.2.1 ⟨tb,vof,none⟩ m c (zph r) rfl ?a1 ?a2 ?a3 ?a4 ?a5 ?a6 ?_)
  case a1 => rw [zpR,HR.out.2.2.2.2.1]
  case a2 => exact HR.out.2.2.2.2.2.2.2
  case a3 => exact zqn r
  case a4 => exact hm1.1
  case a5 => unfold maxLen; omega
  case a6 => omega
  intro g cap2 w2 hown2 hM2 hg2;obtain ⟨hM,hC,htk,hlen,hm,hma,-,-⟩:=HR.out;have hgl:wr.heap.size ≤ g:=by
   rcases hg2 with h | h
   ·have:wr.heap.size=g:=by simpa [Value.ownBlock] using h
    omega
   ·omega
  have hMr:Mods [] wr w2:=hma.trans hM2 (fun x hx => .inr (by
                                  have:x=wr.heap.size:=by simpa [Value.ownBlock] using hx
                                  omega))
  have hmc:=(zar hown2).2.1;have hh:=zqF w2 rb lo lc (.slice (some ⟨g,0,none⟩) m cap2);have hMl:=(QM [] w2).alloc (.cells #[.slice (some ⟨g,0,none⟩) m cap2] 39);have hC3:=hC.later (hMr.trans hMl) AB;obtain ⟨css,hrow,hall⟩:=hC3.row;have hlt8:∀ x,u8.ownBlock=some x → x < wr.heap.size:=fun x hx => by obtain ⟨css',hrow',-⟩:=hC.row;exact (hrow'.lt x hx).2
  have hr:∀ L:List Nat,(∀ x ∈ L,x < w.heap.size ∨ u8.ownBlock=some x) → RowR (w2.alloc (.cells #[.slice (some ⟨g,0,none⟩) m cap2] 39)) L [.slice (some ⟨g,0,none⟩) m cap2] r:=fun L hL =>
   ⟨some ⟨g,0,none⟩,cap2,by rw [hm],by rw [hm]; exact hmc,(zqe hm hown2 (fun hx => by
    have hs:=hM.size;rcases hL g hx with h | h
    ·omega
    ·have:=hlt8 g h
     omega)).mods (hMl.mono)⟩
  have hlit2:=zdy w2 #[.slice (some ⟨g,0,none⟩) m cap2] 39;rw [hlen] at hrow;have HW:=QH (AI hC3 (AI hrow (AI hall (AI hr (AI hlit2 (AI (hM.trans (hMr.trans hMl AB)) hlen))))));clear hM hC htk hlen hm hma hgl hMr hown2 hM2 hg2 hmc hMl hC3 hrow hall hlt8 hr hlit2;unfold zh at hh;go_wp2_with fail;(with_reducible refine hh.mono ?_);rintro e w3 ⟨rfl,rfl⟩;clear hh;go_wp2_with (at_builtin; refine zw _ rfl _ _ 24 rfl 39 j0 _ 1 24 Tryz.underlying24 hj hj0 hj1 hj2 rfl AD u8 i css.flatten rfl HW.out.2.1 ⟨w3.heap.size,0,none⟩ 1 1 [.slice (some ⟨g,0,none⟩) m cap2] rfl rfl ?b2 ?b3 AD ?b5 ?b6 ?_)
  case b2 => exact HW.out.2.2.2.2.1
  case b3 => intro u hu; simp at hu; subst hu; rfl
  case b5 => unfold maxLen; omega
  case b6 => omega
  intro g9 cap9 w9 hown9 hM9 hg9;have hnew:=HW.out.1.push (by rw [HW.out.2.2.2.2.2.2]; exact HW.out.2.1) HW.out.2.2.1 HW.out.2.2.2.1 HW.out.2.2.2.2.2.2 hown9 hM9 BJ;have hM99:Mods [] w w9:=HW.out.2.2.2.2.2.1.trans hM9 (fun x hx => .inr (HW.out.1.own x AJ));have HA:=QH (AI hnew hM99);clear hnew hM99 hown9 hM9 hg9 hi hz0 hz1 hz2 hj hj0 hj1 hj2;go_wp2_with fail;go_roundg (n - (i + 1))
  case measure => omega
  case rel => exact ⟨i + 1,by omega,by go_num,HA.out.2,by rw [HR.out.2.2.1]; exact HA.out.1⟩
 ·obtain rfl:n=i:=by omega
  rw [List.take_of_length_le (by rw [HH.out.2.2.2]; exact LR _)] at hC;have hfin:PP (.returned u8) wr:=by rw [← HH.out.1];exact ⟨_,rfl,hM,hC⟩
  have HFIN:=QH hfin;clear hfin hM hC;go_wp2_with fail;exact HFIN.out
structure RunQ (w:World) (rb pb cb:Nat) (c:CQ):Prop where
 run:RunAt w rb pb
 plan:∃ lo lc vr vt vk,w.heap[pb]? = some (.cells #[zh cb,.int .i64 4,.slice lo 0 lc,vr,vt,vk] 53 (0,0))
 pne:pb ≠ rb
 q:CheckedAt w [rb] cb c
theorem RunQ.mods {w w':World} {rb pb cb:Nat} {c:CQ} (h:RunQ w rb pb cb c) (hM:Mods [rb] w w') (hR:RunAt w' rb pb):RunQ w' rb pb cb c:=by obtain ⟨lo,lc,vr,vt,vk,hp⟩:=h.plan;obtain ⟨hn,von,vwh,vg,its,nms,vo,h1,h2,h3,h4,h5,h6,h7⟩:=h.q;refine ⟨hR,⟨lo,lc,vr,vt,vk,hM.heap hp (by simpa using h.pne)⟩,h.pne,hn,von,vwh,vg,its,nms,vo,hM.heap h1 hn,h2.mods hM,h3.mods hM,?_,h5.mods nodRep hM,h6.mods nameRep hM,h7.mods keyCRep hM⟩;exact h4.mods hM
theorem RunQ.later {w w':World} {rb pb cb:Nat} {c:CQ} (h:RunQ w rb pb cb c) (hM:Mods [] w w'):RunQ w' rb pb cb c:=h.mods (hM.mono) (h.run.mods hM AB)
theorem zeD (w:World) (rb pb cb:Nat) (c:CQ) (hQ:RunQ w rb pb cb c) (hr:c.right=none) (ao:Option Addr) (cap:Nat) (rs:List (List V)) (n:Nat) (hn:rs.length=n) (hI:RowsIn w ao rs []) (hF:zpp rs) (v2:Value) :
  Calls Tryz.prog 22 #[zh rb,.slice ao n cap,v2] w (FiltRes w rs):=by
 obtain ⟨lo,lc,vr,vt,vk,hp⟩:=hQ.plan;obtain ⟨-,von,vwh,vg,its,nms,vo,hst,-⟩:=hQ.q;have hca:=zqp w rb ao lo cap lc rs n hn hI hF;unfold FiltRes at hca ⊢;have r0:=za hQ.run 0;have p0:=za hp 0;have p2:=za hp 2;have q1:=za hst 1;rw [hr] at q1;change w.cell? _=some (zh pb) at r0;change w.cell? _=some (zh cb) at p0;change w.cell? _=some (.slice lo 0 lc) at p2;change w.cell? _=some (.int .i64 (-1)) at q1;clear hst hp hQ hr hn hI hF;unfold zh at *;go_enter Tryz.func22, Tryz.ntmps22;go_wp2_with fail;(with_reducible refine hca.mono ?_);rintro e w2 ⟨t,rfl,hM2,hC⟩;replace r0:=hM2.cell r0;replace p0:=hM2.cell p0;replace q1:=hM2.cell q1;have HC:=QH (AI hM2 hC);clear hca hM2 hC p2;go_wp2_with fail;go_ret;exact ⟨t,rfl,HC.out⟩
def XRow (w:World) (g m:Nat) (done:List V):Prop:=∃ arr:Array Value,w.heap[g]? = some (.cells arr 37 (0,0)) ∧ arr.size=m * 3 ∧ ∀ (j:Nat) (u:Value),(zph done)[j]? = some u → arr[j]? = some u
theorem XRow.start (w:World) (m:Nat):XRow (w.alloc (.cells (mkC m) 37)) w.heap.size m []:=⟨mkC m,QN w _,size_madeCells _ _,fun j u hj => by simp [zph] at hj⟩
theorem XRow.mods {w w':World} {g m:Nat} {done:List V} {L:List Nat} (h:XRow w g m done) (hM:Mods L w w') (hg:g ∉ L):XRow w' g m done:=by obtain ⟨arr,h1,h2⟩:=h;exact ⟨arr,hM.heap h1 hg,h2⟩
theorem XRow.there {w:World} {g m:Nat} {done:List V} (h:XRow w g m done) {k:Nat} (hk:k < m):w.there g (k * 3) 3:=by obtain ⟨arr,h1,h2,-⟩:=h;intro j hj;refine ⟨?_,zc h1 _⟩;rw [za h1,Array.getElem?_eq_getElem AA];rfl
theorem zpH (vs:List V) (v:V):zph (vs ++ [v])=zph vs ++ [.bool v.z,.int .i64 v.n,.string v.s]:=by simp [zph]
theorem XRow.push {w:World} {g m:Nat} {done:List V} (h:XRow w g m done) {k:Nat} (hd:done.length=k) (hk:k < m) (v:V):XRow (w.setCells g (k * 3) [.bool v.z,.int .i64 v.n,.string v.s]) g m (done ++ [v]):=by
 obtain ⟨arr,h1,h2,h3⟩:=h;have hl:(zph done).length=k * 3:=by rw [zpR,hd]
 refine ⟨_,zb (zb (zb h1 (k * 3) (.bool v.z)) (k * 3 + 1) (.int .i64 v.n)) (k * 3 + 1 + 1) (.string v.s),by simp [h2],fun j u hj => ?_⟩;rw [zpH] at hj;by_cases hlt:j < k * 3
 ·rw [List.getElem?_append_left AA] at hj;rw [Array.getElem?_setIfInBounds_ne AA,Array.getElem?_setIfInBounds_ne AA,Array.getElem?_setIfInBounds_ne AA];exact h3 j u hj
 ·rw [List.getElem?_append_right AA,hl] at hj;have hj3:j - k * 3 < 3:=by
   have:=(List.getElem?_eq_some_iff.1 hj).1;simpa using this
  have h3c:j=k * 3 ∨ j=k * 3 + 1 ∨ j=k * 3 + 2:=by omega
  rcases h3c with rfl | rfl | rfl
  ·have hj:some (Value.bool v.z)=some u:=by simpa using hj
   rw [← hj,Array.getElem?_setIfInBounds_ne AA,Array.getElem?_setIfInBounds_ne AA,Array.getElem?_setIfInBounds_self_of_lt AA]
  ·have hj:some (Value.int .i64 v.n)=some u:=by simpa using hj
   rw [← hj,Array.getElem?_setIfInBounds_ne AA,Array.getElem?_setIfInBounds_self_of_lt AE]
  ·have hj:some (Value.string v.s)=some u:=by simpa using hj
   rw [← hj,Array.getElem?_setIfInBounds_self_of_lt AE]
theorem XRow.vals {w:World} {g m:Nat} {vs:List V} (h:XRow w g m vs) {L:List Nat} (hg:g ∉ L):ValsIn w (some ⟨g,0,none⟩) vs L:=by obtain ⟨arr,h1,-,h3⟩:=h;exact fun _ => ⟨g,0,rfl,hg,zpw (off:=0) (fun j u hj => by rw [Nat.zero_add,za h1]; exact h3 j u hj)⟩
def zeroV0:V:=⟨false,0,⟨#[]⟩⟩
def zpj (items:List NT) (r:List V):List V:=items.map fun n => r.getD n.hd.col zeroV0
def colsOk (items:List NT) (m:Nat):Prop:=∀ n ∈ items,(∃ h,n = .leaf h ∧ h.op=oColumn) ∧ n.hd.col < m
def ItemsP (w:World) (rb pb:Nat) (rs:List (List V)) (e:Ending) (w':World):Prop:=∃ t,e = .returned t ∧ Mods [rb] w w' ∧ RunAt w' rb pb ∧ RowsC w w' t rs
end Go.Proofs.YtebljciefhfgbaaGreatDoor
