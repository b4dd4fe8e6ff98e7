/-
  A sort by insertion rises, and has the same; whoever takes away one of the same each time comes to the end. It speaks of no program; no condition.
-/
import Derived.Test.YtebljciefhfgbaaGreatDoorQ45
set_option linter.unusedVariables false
namespace Go.Proofs.YtebljciefhfgbaaGreatDoor
theorem zp0 {α:Type} {l:List α} {i:Nat} (h:i < l.length) (d:α):l.getD i d=l[i]:=by rw [List.getD_eq_getElem?_getD,List.getElem?_eq_getElem h]; rfl
theorem zpr {α:Type} (d:α) {l:List α} {j:Nat} (hj:j + 1 < l.length) (a:Nat):(zpt d l j).getD a d=if a=j then l.getD (j + 1) d else if a=j + 1 then l.getD j d else l.getD a d:=by
 unfold zpt;simp only [List.getD_eq_getElem?_getD,List.getElem?_set,List.length_set];by_cases h1:a=j
 ·subst h1;rw [if_pos rfl,if_pos AA,if_pos rfl]; rfl
 ·rw [if_neg AA,if_neg h1];by_cases h2:a=j + 1
  ·subst h2;rw [if_pos rfl,if_pos hj,if_pos rfl]; rfl
  ·rw [if_neg AA,if_neg h2]
theorem zqt {α:Type} (d:α) {l:List α} {j:Nat} (hj:j + 1 < l.length):(zpt d l j).Perm l:=by unfold zpt;rw [zp0 hj,zp0 AA];exact List.set_set_perm (i:=j + 1) (j:=j) hj AA
theorem zqu {α:Type} (ord:α → α → Int) (d:α):∀ (j:Nat) (l:List α),j < l.length → (sinkL ord d j l).Perm l:=by
 intro j
 induction j with
 | zero => intro l _; exact .refl _
 | succ j ih =>
  intro l hj;unfold sinkL;split
  ·exact (ih _ (by rw [zpo]; omega)).trans (zqt d hj)
  ·exact .refl _
theorem zqW {α:Type} (ord:α → α → Int) (d:α):∀ (k:Nat) (l:List α),k < l.length ∨ k=0 → (insL ord d k l).Perm l:=by
 intro k
 induction k with
 | zero => intro l _; exact .refl _
 | succ k ih =>
  intro l hk;have hk:k + 1 < l.length:=by omega
  unfold insL;exact (zqu ord d (k + 1) _ (by rw [zpl]; exact hk)).trans (ih l AA)
section
variable {α:Type} (key:α → Int) (d:α)
def SortedTo (i:Nat) (l:List α):Prop:=∀ a b,a < b → b ≤ i → key (l.getD a d) ≤ key (l.getD b d)
def AlmostAt (j i:Nat) (l:List α):Prop:=(∀ a b,a < b → b ≤ i → a ≠ j → b ≠ j → key (l.getD a d) ≤ key (l.getD b d)) ∧ ∀ b,j < b → b ≤ i → key (l.getD j d) ≤ key (l.getD b d)
theorem zp4 (ord:α → α → Int) (hord:∀ x y,ord x y < 0 ↔ key x < key y):∀ (j i:Nat) (l:List α),i < l.length → j ≤ i → AlmostAt key d j i l → SortedTo key d i (sinkL ord d j l):=by
 intro j
 induction j with
 | zero =>
  intro i l hi hj h a b hab hb;by_cases ha:a=0
  ·subst ha; exact h.2 b hab hb
  ·exact h.1 a b hab hb ha AA
 | succ j ih =>
  intro i l hi hj h;have hjl:j + 1 < l.length:=by omega
  unfold sinkL;by_cases ho:ord (l.getD (j + 1) d) (l.getD j d) < 0
  ·rw [if_pos ho];have hk:=(hord _ _).1 ho;refine ih i _ (by rw [zpo]; exact hi) AA ⟨fun a b hab hb ha hbj => ?_,fun b hb hbi => ?_⟩
   ·rw [zpr d hjl,zpr d hjl,if_neg ha,if_neg hbj];by_cases h1:a=j + 1
    ·subst h1;rw [if_pos rfl,if_neg AA];exact h.1 j b AA hb AA AA
    ·rw [if_neg h1];by_cases h2:b=j + 1
     ·subst h2;rw [if_pos rfl];exact h.1 a j AA AA h1 AA
     ·rw [if_neg h2];exact h.1 a b hab hb h1 h2
   ·rw [zpr d hjl,zpr d hjl,if_pos rfl,if_neg AA];by_cases h2:b=j + 1
    ·rw [if_pos h2]; omega
    ·rw [if_neg h2]; exact h.2 b AA hbi
  ·rw [if_neg ho];have hk:key (l.getD j d) ≤ key (l.getD (j + 1) d):=by
    exact Int.not_lt.1 fun h => ho ((hord _ _).2 h)
   intro a b hab hb;by_cases h1:a=j + 1
   ·subst h1; exact h.2 b hab hb
   ·by_cases h2:b=j + 1
    ·subst h2;by_cases h3:a=j
     ·subst h3; exact hk
     ·have:=h.1 a j AA AA h1 AA;omega
    ·exact h.1 a b hab hb h1 h2
theorem zqa (ord:α → α → Int) (hord:∀ x y,ord x y < 0 ↔ key x < key y):∀ (k:Nat) (l:List α),k < l.length → SortedTo key d k (insL ord d k l):=by
 intro k
 induction k with
 | zero => intro l _ a b hab hb; omega
 | succ k ih =>intro l hk;unfold insL;exact zp4 key d ord hord (k + 1) (k + 1) _ (by rw [zpl]; exact hk) (LR _) ⟨fun a b hab hb ha hb2 => ih l AA a b hab AA,fun b hb hb2 => by omega⟩
end
def zpu {α:Type}:List α → List Nat → List α
 | x :: xs,u :: us => if u=0 then x :: zpu xs us else zpu xs us
 | _,_ => []
theorem zqX {α:Type} {x:α}:∀ {xs:List α} {us:List Nat},x ∈ zpu xs us → ∃ (k:Nat),xs[k]? = some x ∧ us[k]? = some 0:=by
 intro xs
 induction xs with
 | nil => intro us h; cases h
 | cons y ys ih =>
  intro us h
  cases us with
  | nil => cases h
  | cons u us =>
   unfold zpu at h;split at h
   ·rename_i hu
    rcases MC h with rfl | h
    ·exact ⟨0,rfl,by rw [hu]; rfl⟩
    ·obtain ⟨k,h1,h2⟩:=ih h;exact ⟨k + 1,h1,h2⟩
   ·obtain ⟨k,h1,h2⟩:=ih h;exact ⟨k + 1,h1,h2⟩
theorem zqY {α:Type} {x:α}:∀ {xs:List α} {us:List Nat} {k:Nat},xs[k]? = some x → us[k]? = some 0 → (zpu xs us).Perm (x :: zpu xs (us.set k 1)):=by
 intro xs
 induction xs with
 | nil => intro us k h; cases h
 | cons y ys ih =>
  intro us k h1 h2
  cases us with
  | nil => cases h2
  | cons u us =>
   cases k with
   | zero =>cases h1;cases h2;exact .refl _
   | succ k =>
    have h:=ih (us:=us) (k:=k) h1 h2;simp only [List.set_cons_succ];unfold zpu;split
    ·exact (h.cons y).trans (List.Perm.swap _ _ _)
    ·exact h
theorem zqZ {α:Type}:∀ (xs:List α),zpu xs (List.replicate xs.length 0)=xs:=by
 intro xs
 induction xs with
 | nil => rfl
 | cons x xs ih => simp only [List.length_cons,List.replicate_succ]; unfold zpu; rw [if_pos rfl,ih]
theorem zrr {α:Type} {plain all:List α} {us:List Nat} {i:Nat} (h:(zpu plain us).Perm (all.drop i)) (hi:i < all.length):∃ (k:Nat),plain[k]? = some all[i] ∧ us[k]? = some 0:=
 zqX (h.mem_iff.2 (by rw [List.drop_eq_getElem_cons hi]; exact List.mem_cons_self))
theorem zq0 {α:Type} {plain all:List α} {us:List Nat} {i k:Nat} (h:(zpu plain us).Perm (all.drop i)) (hi:i < all.length) (hk:plain[k]? = some all[i]) (hu:us[k]? = some 0):(zpu plain (us.set k 1)).Perm (all.drop (i + 1)):=by have h1:=(zqY hk hu).symm.trans h;rw [List.drop_eq_getElem_cons hi] at h1;exact List.Perm.cons_inv h1
open Go.RowKit
theorem conv1 (w:World) (n:Nat) (hn:n < 10):(convert 69 9 (.slice (some ⟨w.heap.size,0,none⟩) 1 1)).run Tryz.prog (w.alloc (.cells #[.int .u8 (48 + (n:Int))] 5)) = .ok (.string ⟨[UInt8.ofNat (48 + n)].toArray⟩) (w.alloc (.cells #[.int .u8 (48 + (n:Int))] 5)):=by
 have hb:(UInt8.ofNat (48 + n)).toNat=48 + n:=by rw [UInt8.toNat_ofNat']; omega
 have:=run_convert_bytes_back (P:= Tryz.prog) (w.alloc (.cells #[.int .u8 (48 + (n:Int))] 5)) 69 9 5 ⟨w.heap.size,0,none⟩ 1 [UInt8.ofNat (48 + n)] Tryz.underlying69 Tryz.underlying5 Tryz.underlying9 (by
  intro j hj;obtain rfl:j=0:=by simp only [List.length_cons,List.length_nil] at hj; omega
  rw [zci,za (QN w _)];have:(((UInt8.ofNat (48 + n)).toNat:Nat):Int)=48 + (n:Int):=by rw [hb]; omega
  show some (Value.int .u8 (48 + (n:Int)))=some (Value.int .u8 (((UInt8.ofNat (48 + n)).toNat:Nat):Int))
  rw [this])
 exact this
set_option maxRecDepth 100000 in
set_option maxHeartbeats 4000000 in
theorem digits15 (w:World) (n:Nat) (hn:n < 10):Calls Tryz.prog 9 #[.int .u16 n] w fun e w' => e = .returned (.string ⟨[UInt8.ofNat (48 + n)].toArray⟩) ∧ Mods [] w w':=by
 have hc0:=conv1 w n hn;have hm:(n:Int) % 10=n:=by omega
 have hw1:IntKind.u16.wrap (48 + (n:Int))=48 + (n:Int):=IntWalk.u16_in _ AA;have hv1:IntKind.u8.wrap (48 + (n:Int))=48 + (n:Int):=IntWalk.u8_in _ AA;have hM0:=(QM [] w).alloc (.cells #[.int .u8 (48 + (n:Int))] 5);have hD:(⟨[UInt8.ofNat (48 + n)].toArray⟩ : ByteArray).size ≤ 1:=LR _;obtain ⟨D,hDe⟩:=EX ((⟨[UInt8.ofNat (48 + n)].toArray⟩ : ByteArray):ByteArray);rw [hDe] at hc0 ⊢;clear hD hDe;go_enter Tryz.func9, Tryz.ntmps9;go_wp2_with fail;have HM:=QH hM0;clear hc0 hM0 hw1 hv1;go_loopg [0,3] 0 (fun gk t0 t3 wr => t0 = .int .u16 n ∧ t3 = .string D ∧ Mods [] w wr)
 case atStart => exact ⟨rfl,rfl,HM.out⟩
 obtain ⟨rfl,rfl,hM⟩:=hrel;go_wp2_with fail;go_ret;exact ⟨rfl,hM⟩
structure AskIs (c:CQ) (gr:Bool) (group:List Nat) (items:List NT) (order:List KeyC) (lim off:Int):Prop where
 one:OneT c
 grouped:c.grouped=gr
 group:c.group=group
 items:c.items=items
 order:c.order=order
 limit:c.limit=lim
 offset:c.offset=off
theorem zrQ {gr:Bool} {group:List Nat} {items:List NT} {order:List KeyC} {lim off:Int} {l:Bs} (h:askOk gr group items order lim off (zaI l)=true):∃ c,zaI l=some (.ok c) ∧ AskIs c gr group items order lim off:=by
 cases hr:zaI l with
 | none => rw [hr] at h; cases h
 | some r =>
  rw [hr] at h
  cases r with
  | bad p k => cases h
  | ok c =>unfold askOk at h;simp only [Bool.and_eq_true,decide_eq_true_eq] at h;obtain ⟨⟨h1,h2,h3,h4⟩,⟨h5,h6,h7⟩,h8,h9,h10⟩:=h;exact ⟨c,rfl,⟨h1,h2,h3,h4⟩,h5,h6,h7,h8,h9,h10⟩
theorem zqh (n:Nat):rowsN n 8 ≤ 8:=by unfold rowsN; split <;> omega
theorem zqi (C:Nat → Int × ByteArray × Bool) (i:Nat):(rowI C i).length=4:=zpg C i 4
theorem zpy {C:Nat → Int × ByteArray × Bool} {n:Nat} {r:List V} (h:r ∈ zpk C n):∃ i,i < n ∧ r=rowI C i:=by unfold zpk at h;obtain ⟨i,hi,rfl⟩:=List.mem_map.1 h;exact ⟨i,List.mem_range.1 hi,rfl⟩
theorem zpJ (C:Nat → Int × ByteArray × Bool) (i:Nat):(rowI C i).getD 0 zeroV0 = ⟨false,(C (4 * i)).1,⟨#[]⟩⟩:=by show cellV (colKind 0) (colNull 0) (C (4 * i + 0)).1 (C (4 * i + 0)).2.1 (C (4 * i + 0)).2.2=_;unfold cellV colKind colNull;simp
theorem zq1 (C:Nat → Int × ByteArray × Bool) (n:Nat):zpp (zpk C (rowsN n 8)):=
 ⟨by rw [zpi]; have:=zqh n; omega,fun r hr => by
  obtain ⟨i,-,rfl⟩:=zpy hr
  rw [zqi]; omega⟩
theorem zrC:colsOk soItems 4:=by intro n hn;simp only [soItems,List.mem_cons,List.not_mem_nil,or_false] at hn;rcases hn with rfl | rfl | rfl <;> exact ⟨⟨_,rfl,rfl⟩,by decide⟩
theorem zq2 (r:List V):zpj soItems r=[r.getD 0 zeroV0,r.getD 1 zeroV0,r.getD 2 zeroV0]:=rfl
def keyV (d:Bool) (r:List V):Int:=if d=true then -(r.getD 0 zeroV0).n else (r.getD 0 zeroV0).n
def ordS (d:Bool) (a b:List V):Int:=ordI d (a.getD 0 zeroV0).n (b.getD 0 zeroV0).n
theorem zrD (d:Bool) (a b:List V):ordS d a b < 0 ↔ keyV d a < keyV d b:=by
 unfold ordS ordI keyV cmpI;cases d
 ·simp only [Bool.false_eq_true,if_false]
  repeat' split
  all_goals omega
 ·simp only [if_true]
  repeat' split
  all_goals omega
theorem zrE {α:Type} (d:α):∀ (k:Nat) (l:List α),insL (fun _ _ => 0) d k l=l:=by
 have hs:∀ (j:Nat) (l:List α),sinkL (fun _ _ => 0) d j l=l:=fun j l => by
  cases j with
  | zero => rfl
  | succ j => unfold sinkL; rw [if_neg AD]
 intro k
 induction k with
 | zero => intro l; rfl
 | succ k ih => intro l; unfold insL; rw [hs,ih]
theorem zqj (l:List (List V)):winR (-1) (-1) l=l:=rfl
theorem zrs {c:CQ} {o:List KeyC} {li of:Int} (h:AskIs c false [] soItems o li of) (C:Nat → Int × ByteArray × Bool) (R:Nat) (hR:R ≤ 8) (W:World) (rb pb cb:Nat) (bo:Option Addr) (bc:Nat) (hQ:RunQ W rb pb cb c) (hI:RowsIn W bo (zpk C R) [rb]) :
  Calls Tryz.prog 23 #[zh rb,.slice bo R bc] W (ItemsP W rb pb ((zpk C R).map (zpj soItems))):=by
 have:=zp8 W rb pb cb c hQ h.grouped (by rw [h.items]; exact zrC) 3 (by rw [h.items]; rfl) AD bo bc (zpk C R) R (zpi _ _) AA hI (fun r hr => by
  obtain ⟨i,-,rfl⟩:=zpy hr
  exact zqi _ _)
 rw [h.items] at this;exact this
theorem zrt {c:CQ} {d:Bool} {li of:Int} (h:AskIs c false [] soItems [⟨0,d⟩] li of) (C:Nat → Int × ByteArray × Bool) (R:Nat) (hC:∀ i,i < R → -9223372036854775808 ≤ (C (4 * i)).1 ∧ (C (4 * i)).1 ≤ 9223372036854775807) (W:World) (rb pb cb:Nat) (hQ:RunQ W rb pb cb c)
  (va:Value) (ra:List V) (hra:ra ∈ (zpk C R).map (zpj soItems)) (vb:Value) (rc:List V) (hrc:rc ∈ (zpk C R).map (zpj soItems)) (h1:RowR W [] [va] ra) (h2:RowR W [] [vb] rc) :
  Calls Tryz.prog 25 #[zh rb,va,vb] W fun e w' => e = .returned (.int .i64 (ordS d ra rc)) ∧ Mods [] W w':=by
 obtain ⟨r,hr,rfl⟩:=List.mem_map.1 hra;obtain ⟨q,hq,rfl⟩:=List.mem_map.1 hrc;obtain ⟨i,hi,rfl⟩:=zpy hr;obtain ⟨j,hj,rfl⟩:=zpy hq;rw [zq2,zpJ] at h1 h2;obtain ⟨vo,c1,e1,-,hv1⟩:=h1;obtain ⟨uo,c2,e2,-,hv2⟩:=h2;simp only [List.cons.injEq,and_true] at e1 e2;subst e1;subst e2;have:=zqU W rb pb cb c hQ d h.order { op:=oColumn,t:=tyInt,col:=0 } [colN 1 ⟨2,2⟩,colN 2 tyBytes] h.items rfl vo uo 3 3 c1 c2 (C (4 * i)).1 (C (4 * j)).1 _ _ rfl rfl hv1 hv2 (hC i hi).1 (hC i hi).2 (hC j hj).1 (hC j hj).2;have e:ordS d (zpj soItems (rowI C i)) (zpj soItems (rowI C j))=ordI d (C (4 * i)).1 (C (4 * j)).1:=by unfold ordS;rw [zq2,zq2,zpJ,zpJ];rfl
 rw [e];exact this
end Go.Proofs.YtebljciefhfgbaaGreatDoor
