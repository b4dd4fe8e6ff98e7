/-
  lex.kinds, walked: what all bytes are. No condition.
-/
import Derived.Test.YtcabeljiobiojaaGreatDoorQ00
import Derived.Test.YtcabeljiobiojaaGreatDoorProg
import Derived.Lib.SlBytesConst
import Derived.Test.YtcabeljiobiojaaGreatDoorShelf
import Derived.Lib.SmallJoins
import Derived.Test.YtcabeljiobiojaaGreatDoorRows
import Derived.ProofKit
import Derived.OpenShut
import Derived.SizedLaws
import Derived.Test.YtcabeljiobiojaaGreatDoorCards
import Derived.Test.YtcabeljiobiojaaGreatDoorTie
import Derived.LaidMore
import Derived.Lay
import Derived.SevenTiedAt
import Derived.Stop.Joined
import Derived.Stop.LaidErr
import Derived.Deep.Slices
import Derived.Deep.Fields
import Derived.ChangeSame
import Derived.Deep.QuietTactic
import Derived.BigQuiet
import Derived.IntWalk
set_option linter.unusedVariables false
set_option maxRecDepth 100000
set_option maxHeartbeats 1000000
namespace Go.Proofs.YtcabeljiobiojaaGreatDoor
open Go.RowKit
theorem BN {p:Prop} (h:p:=by exact hk24):p:=h
theorem BH {p:Prop} (h:p:=by rw [HB.out]; exact LR _):p:=h
theorem AJ {p:Prop} (h:p:=by simpa using hx):p:=h
theorem AE {p:Prop} (h:p:=by simp; omega):p:=h
theorem AC {p:Prop} (h:p:=by kernel_rfl):p:=h
def kindB (c:Nat):Nat:=if (97 ≤ c ∧ c ≤ 122) ∨ (65 ≤ c ∧ c ≤ 90) ∨ c=95 then 2 else if 48 ≤ c ∧ c ≤ 57 then 4 else if c=32 ∨ c=9 ∨ c=10 ∨ c=13 then 1 else 0
def KRow (w:World) (b:Nat) (f:Nat → Nat):Prop:=∃ arr T,w.heap[b]? = some (.cells arr T (0,0)) ∧ arr.size=256 ∧ ∀ j,j < 256 → arr[j]? = some (.int .u8 (f j:Int))
theorem KRow.set {w:World} {b:Nat} {f:Nat → Nat} (h:KRow w b f) {j v:Nat} (hj:j < 256):KRow (w.setCell ⟨b,j,none⟩ (.int .u8 (v:Int))) b (fun i => if i=j then v else f i):=by
 obtain ⟨arr,T,h1,h2,h3⟩:=h;refine ⟨_,T,zb h1 _ _,by simpa using h2,fun i hi => ?_⟩;by_cases hij:i=j
 ·subst hij;rw [Array.getElem?_setIfInBounds_self_of_lt AA];simp
 ·rw [Array.getElem?_setIfInBounds_ne (fun e => hij e.symm)];simp [hij,h3 i hi]
theorem KRow.cell {w:World} {b:Nat} {f:Nat → Nat} (h:KRow w b f) {j:Nat} (hj:j < 256):w.cell? ⟨b,j,none⟩ = some (.int .u8 (f j:Int)):=by obtain ⟨arr,T,h1,h2,h3⟩:=h;rw [za h1]; exact h3 j hj
theorem KRow.cell0 {w:World} {b:Nat} {f:Nat → Nat} (h:KRow w b f) {j:Nat} (hj:j < 256) (h0:f j=0):w.cell? ⟨b,j,none⟩ = some (.int .u8 0):=by have:=h.cell hj;rw [h0] at this;exact this
theorem KRow.free {w:World} {b:Nat} {f:Nat → Nat} (h:KRow w b f) (j:Nat):w.frozen? ⟨b,j,none⟩ = false:=by obtain ⟨arr,T,h1,h2,h3⟩:=h;exact zc h1 j
theorem KRow.congr {w:World} {b:Nat} {f g:Nat → Nat} (h:KRow w b f) (hfg:∀ j,j < 256 → f j=g j):KRow w b g:=by obtain ⟨arr,T,h1,h2,h3⟩:=h;exact ⟨arr,T,h1,h2,fun j hj => by rw [← hfg j hj]; exact h3 j hj⟩
theorem or02:bits .or .u8 0 2=2:=by decide
theorem or04:bits .or .u8 0 4=4:=by decide
theorem or01:bits .or .u8 0 1=1:=by decide
def kf1 (k:Nat) (j:Nat):Nat:=if (97 ≤ j ∧ j < 97 + k) ∨ (65 ≤ j ∧ j < 65 + k) then 2 else 0
def kf2 (k:Nat) (j:Nat):Nat:=if (97 ≤ j ∧ j < 123) ∨ (65 ≤ j ∧ j < 91) then 2 else if 48 ≤ j ∧ j < 48 + k then 4 else 0
def kf3 (k:Nat) (j:Nat):Nat:=if (97 ≤ j ∧ j < 123) ∨ (65 ≤ j ∧ j < 91) ∨ j=95 then 2 else if 48 ≤ j ∧ j < 58 then 4 else if (0 < k ∧ j=32) ∨ (1 < k ∧ j=9) ∨ (2 < k ∧ j=10) ∨ (3 < k ∧ j=13) then 1 else 0
theorem znV (j:Nat):kf3 4 j=kindB j:=by unfold kf3 kindB;split <;> split <;> (try split) <;> (try split) <;> (try split) <;> (try split) <;> omega
theorem zi {w:World} {g:Nat} {t:TypeId} {fr:Nat × Nat} {old:Array Value} (cs:Array Value) (h:w.heap[g]? = some (.cells old t fr)):(w.setRow g cs).heap[g]? = some (.cells cs t fr):=by simp [World.setRow,Array.getElem?_modify,h]
theorem zkq (w:World) :
  Calls Tryz.prog 47 #[] w fun e w' => ∃ arr,e = .returned (.agg arr) ∧ arr.size=256 ∧ (∀ j,j < 256 → arr[j]? = some (.int .u8 (kindB j:Int))) ∧ Mods [] w w':=by
 have kc:=fun (w:World) (C:Array Value) (n c:Nat) => Lib.run_convert_bytes_const (P:= Tryz.prog) w 193 5 C n c Tryz.underlying193 Tryz.underlying5;go_enter Tryz.func47, Tryz.ntmps47;go_wp2_with fail;have h0:KRow (w.alloc (.cells Tryz.zeroCells145 145)) w.heap.size (kf1 0):=by
  refine ⟨Tryz.zeroCells145, 145, QN w _,by kernel_rfl,fun j hj => ?_⟩;have hz : Tryz.zeroCells145 = Array.replicate 256 (.int .u8 0):=by kernel_rfl
  rw [hz,Array.getElem?_replicate,if_pos hj];unfold kf1;rw [if_neg AA]; rfl
 have hM0:=(QM [] w).alloc (.cells Tryz.zeroCells145 145);generalize w.alloc (.cells Tryz.zeroCells145 145)=w1 at *;generalize hb:w.heap.size=b at *;have HB:=QH hb;clear hb;go_loopw [5] (fun t5 wr => ∃ k:Nat,k ≤ 26 ∧ t5 = .int .i64 k ∧ Mods [] w wr ∧ KRow wr b (kf1 k)) (fun t5 _ => 26 - (intOf t5).toNat)
 case atStart => exact ⟨0,by omega,rfl,hM0,h0⟩
 case round =>
  clear h0 hM0;obtain ⟨k,hk,rfl,hM,hR⟩:=hrel;by_cases hk26:k < 26
  ·have c1:=hR.cell0 (j:=97 + k) AA (by unfold kf1; rw [if_neg AA]);have c2:=hR.cell0 (j:=65 + k) AA (by unfold kf1; rw [if_neg AA]);have f1:=hR.free (97 + k);have f2:=hR.free (65 + k)
   have HR4:=QH (((hR.set (j:=97 + k) (v:=2) AA).set (j:=65 + k) (v:=2) AA).congr (g:=kf1 (k + 1)) (fun j hj => by
    simp only [kf1];by_cases h1:j=65 + k
    ·rw [if_pos h1,if_pos AA]
    ·rw [if_neg h1];by_cases h2:j=97 + k
     ·rw [if_pos h2,if_pos AA]
     ·rw [if_neg h2];by_cases h3:(97 ≤ j ∧ j < 97 + k) ∨ (65 ≤ j ∧ j < 65 + k)
      ·rw [if_pos h3,if_pos AA]
      ·rw [if_neg h3,if_neg AA]))
   have hor:=or02;clear hR;go_wp2_with fail;go_roundw
   case measure => simp [intOf]; omega
   case rel => exact ⟨k + 1,by omega,by go_num,(hM.setCell (.inr BH) _).setCell (.inr BH) _,HR4.out⟩
  ·obtain rfl:k=26:=by omega
   have hR1:=hR.congr (g:=kf2 0) (fun j hj => by
    simp only [kf1,kf2];by_cases h3:(97 ≤ j ∧ j < 97 + 26) ∨ (65 ≤ j ∧ j < 65 + 26)
    ·rw [if_pos h3,if_pos AA]
    ·rw [if_neg h3,if_neg AA,if_neg AA])
   clear hR;go_wp2_with fail;obtain ⟨wo,hwo⟩ : ∃ wo:World,wo=wr:=⟨_,rfl⟩;rw [← hwo] at hR1 hM ⊢;clear hwo wr;go_loopw [21] (fun t21 wr => ∃ k:Nat,k ≤ 10 ∧ t21 = .int .i64 k ∧ Mods [] w wr ∧ KRow wr b (kf2 k)) (fun t21 _ => 10 - (intOf t21).toNat)
   case atStart => exact ⟨0,by omega,rfl,hM,hR1⟩
   case round =>
    clear hR1 hM;obtain ⟨k,hk,rfl,hM,hR⟩:=hrel;by_cases hk10:k < 10
    ·have c1:=hR.cell0 (j:=48 + k) AA (by unfold kf2; rw [if_neg AA,if_neg AA]);have f1:=hR.free (48 + k)
     have HR4:=QH ((hR.set (j:=48 + k) (v:=4) AA).congr (g:=kf2 (k + 1)) (fun j hj => by
      simp only [kf2];by_cases h1:j=48 + k
      ·rw [if_pos h1,if_neg AA,if_pos AA]
      ·rw [if_neg h1];by_cases h2:(97 ≤ j ∧ j < 123) ∨ (65 ≤ j ∧ j < 91)
       ·rw [if_pos h2,if_pos h2]
       ·rw [if_neg h2,if_neg h2];by_cases h3:48 ≤ j ∧ j < 48 + k
        ·rw [if_pos h3,if_pos AA]
        ·rw [if_neg h3,if_neg AA]))
     have hor:=or04;clear hR;go_wp2_with fail;go_roundw
     case measure => simp [intOf]; omega
     case rel => exact ⟨k + 1,by omega,by go_num,hM.setCell (.inr BH) _,HR4.out⟩
    ·obtain rfl:k=10:=by omega
     have c1:=hR.cell0 (j:=95) AA (by simp [kf2]);have f1:=hR.free 95
     have HR4:=QH ((hR.set (j:=95) (v:=2) AA).congr (g:=kf3 0) (fun j hj => by
      simp only [kf2,kf3];by_cases h1:j=95
      ·rw [if_pos h1,if_pos AA]
      ·rw [if_neg h1];by_cases h2:(97 ≤ j ∧ j < 123) ∨ (65 ≤ j ∧ j < 91)
       ·rw [if_pos h2,if_pos AA]
       ·rw [if_neg h2,if_neg (show ¬ ((97 ≤ j ∧ j < 123) ∨ (65 ≤ j ∧ j < 91) ∨ j=95) by omega)];by_cases h3:48 ≤ j ∧ j < 48 + 10
        ·rw [if_pos h3,if_pos (show 48 ≤ j ∧ j < 58 by omega)]
        ·rw [if_neg h3,if_neg (show ¬ (48 ≤ j ∧ j < 58) by omega),if_neg AA]))
     have hor:=or02;have hlt:b < wr.heap.size:=by obtain ⟨arr,T,h1,-⟩:=hR; exact zj h1
     have kc2:(convert 193 193 (.slice (some ⟨wr.heap.size,0,none⟩) 4 4)).run Tryz.prog ((wr.setCell ⟨b,95,none⟩ (.int .u8 2)).alloc (.cells #[.int .u8 32,.int .u8 9,.int .u8 10,.int .u8 13] 5)) = .ok (.slice (some ⟨wr.heap.size,0,none⟩) 4 4) ((wr.setCell ⟨b,95,none⟩ (.int .u8 2)).alloc (.cells #[.int .u8 32,.int .u8 9,.int .u8 10,.int .u8 13] 5 (4,5))):=by have:=kc (wr.setCell ⟨b,95,none⟩ (.int .u8 2)) #[.int .u8 32,.int .u8 9,.int .u8 10,.int .u8 13] 4 4;simpa using this
     have hsz:(wr.setCell ⟨b,95,none⟩ (.int .u8 2)).heap.size=wr.heap.size:=by simp
     have hg0:=QN (wr.setCell ⟨b,95,none⟩ (.int .u8 2)) (.cells #[.int .u8 32,.int .u8 9,.int .u8 10,.int .u8 13] 5 (4,5));rw [hsz] at hg0;have hMA:=(QM [] (wr.setCell ⟨b,95,none⟩ (.int .u8 2))).alloc (.cells #[.int .u8 32,.int .u8 9,.int .u8 10,.int .u8 13] 5 (4,5));have hM2:=(hM.setCell (p:=⟨b,95,none⟩) (.inr BH) (.int .u8 2)).alloc (.cells #[.int .u8 32,.int .u8 9,.int .u8 10,.int .u8 13] 5 (4,5));have hR5:KRow ((wr.setCell ⟨b,95,none⟩ (.int .u8 2)).alloc (.cells #[.int .u8 32,.int .u8 9,.int .u8 10,.int .u8 13] 5 (4,5))) b (kf3 0):=by obtain ⟨arr,T,h1,h2⟩:=HR4.out;exact ⟨arr,T,hMA.heap h1,h2⟩
     clear hR HR4 hM hMA hsz;go_wp2_with fail;clear kc2 c1 f1;generalize (wr.setCell ⟨b,95,none⟩ (.int .u8 2)).alloc (.cells #[.int .u8 32,.int .u8 9,.int .u8 10,.int .u8 13] 5 (4,5))=wo at *;generalize wr.heap.size=g at *;clear kc hor;go_loopw [38] (fun t38 wx => ∃ k:Nat,k ≤ 4 ∧ t38 = .int .i64 k ∧ Mods [b] wo wx ∧ KRow wx b (kf3 k)) (fun t38 _ => 4 - (intOf t38).toNat)
     case atStart => exact ⟨0,by omega,rfl,QM _ _,hR5⟩
     case round =>
      clear hR5;obtain ⟨k,hk,rfl,hM,hR⟩:=hrel;by_cases hk4:k < 4
      ·have hgx:=hM.heap hg0 AE;have hor:=or01;have h4:k=0 ∨ k=1 ∨ k=2 ∨ k=3:=by omega
       obtain ⟨x,hx⟩ : ∃ x:Nat,(#[.int .u8 32,.int .u8 9,.int .u8 10,.int .u8 13]:Array Value)[k]? = some (.int .u8 x) ∧ x < 33 ∧ kf3 k x=0 ∧ ∀ j,j < 256 → (if j=x then 1 else kf3 k j)=kf3 (k + 1) j:=by
        have key:∀ (k x:Nat),(k=0 ∧ x=32) ∨ (k=1 ∧ x=9) ∨ (k=2 ∧ x=10) ∨ (k=3 ∧ x=13) → kf3 k x=0 ∧ ∀ j,j < 256 → (if j=x then 1 else kf3 k j)=kf3 (k + 1) j:=by
         intro k x h;refine ⟨by unfold kf3; rw [if_neg AA,if_neg AA,if_neg AA],fun j hj => ?_⟩;unfold kf3;by_cases h1:j=x
         ·rw [if_pos h1,if_neg AA,if_neg AA,if_pos AA]
         ·rw [if_neg h1];by_cases h2:(97 ≤ j ∧ j < 123) ∨ (65 ≤ j ∧ j < 91) ∨ j=95
          ·rw [if_pos h2,if_pos h2]
          ·rw [if_neg h2,if_neg h2];by_cases h3:48 ≤ j ∧ j < 58
           ·rw [if_pos h3,if_pos h3]
           ·rw [if_neg h3,if_neg h3];by_cases h5:(0 < k ∧ j=32) ∨ (1 < k ∧ j=9) ∨ (2 < k ∧ j=10) ∨ (3 < k ∧ j=13)
            ·rw [if_pos h5,if_pos AA]
            ·rw [if_neg h5,if_neg AA]
        rcases h4 with rfl | rfl | rfl | rfl
        ·exact ⟨32,rfl,by omega,key 0 32 AA⟩
        ·exact ⟨9,rfl,by omega,key 1 9 AA⟩
        ·exact ⟨10,rfl,by omega,key 2 10 AA⟩
        ·exact ⟨13,rfl,by omega,key 3 13 AA⟩
       obtain ⟨hx1,hx2,hx3,hx4⟩:=hx;have cg:wr.cell? ⟨g,k,none⟩ = some (.int .u8 (x:Int)):=(za hgx k).trans hx1;have c1:=hR.cell0 (j:=x) AA hx3;have f1:=hR.free x;have HR4:=QH ((hR.set (j:=x) (v:=1) AA).congr (g:=kf3 (k + 1)) hx4);clear hR hx1 hx3 hx4 h4 hgx;go_wp2_with fail;go_roundw
       case measure => simp [intOf]; omega
       case rel => exact ⟨k + 1,by omega,by go_num,hM.setCell (.inl AB) _,HR4.out⟩
      ·obtain rfl:k=4:=by omega
       have hMw:=hM2.trans hM (by simp; exact Nat.le_of_eq HB.out);obtain ⟨arr,T,h1,h2,h3⟩:=hR;have hinfo:(Tryz.prog.info? 145).map (·.size)=some 256:=by kernel_rfl
       have hone:arr.all (·.oneCell')=true:=by rw [Array.all_eq_true];intro i hi;have:=h3 i AA;rw [Array.getElem?_eq_getElem hi] at this;rw [Option.some.inj this]; rfl
       have h3':=QH h3
       have hk4:Hid (∀ j,j < 256 → arr[j]? = some (.int .u8 (kindB j:Int))):=QH (fun j hj => by
        rw [h3'.out j hj,znV])
       clear h3 h3'
       go_wp2_with (first
        | (refine wpList_load_row rfl 145 (.tmp 0) rfl b rfl T arr (0,0) _ h1 Tryz.underlying145 rfl (by rw [hinfo,h2]) ?_)
        | (refine wpList_store_row rfl 145 (.tmp 0) (.tmp 48) rfl b arr rfl rfl T arr h1 (by rw [hinfo,h2]) rfl hone ?_))
       refine bodyPost_ret (results_cell_row rfl _ _ b T arr (0,0) _ rfl (zi _ h1) Tryz.underlying145 rfl (by rw [hinfo,h2])) rfl ⟨arr,rfl,h2,hk4.out,hMw.setRow (.inr BH) _⟩
def Tabs (w:World):Prop:=Lib.TabIs Tryz.prog w "strings.asciiSpace" .u8 Lib.asciiSpaceTab ∧ ∃ ev,w.cell? ⟨7, 0,none⟩ = some ev ∧ (ev = .nilIface ∨ ∃ te pe,ev = .iface te pe)
theorem Tabs.mods {w w':World} (h:Tabs w) (hM:Mods [] w w'):Tabs w':=by obtain ⟨h1,ev,h2,h3⟩:=h;exact ⟨Joins.tab_stays (g:= 1) AC h1 (hM.below _ (LR _) AB) (LR _),ev,hM.cell h2,h3⟩
def kwText:ByteArray:=⟨#[65,78,68,32,65,83,32,65,83,67,32,66,89,32,67,79,85,78,84,32,68,69,83,67,32,70,65,76,83,69,32,70,82,79,77,32,71,82,79,85,80,32,73,83,32,74,79,73,78,32,76,73,77,73,84,32,77,65,88,32,77,73,78,32,78,79,84,32,78,85,76,76,32,79,70,70,83,69,84,32,79,78,32,79,82,32,79,82,68,69,82,32,83,69,76,69,67,84,32,83,85,77,32,84,82,85,69,32,87,72,69,82,69]⟩
theorem zkr:Lib.fields kwText.data.toList=keyWords:=by kernel_rfl
theorem zmk:∀ (j:Nat) b,kwText.data.toList[j]? = some b → b.toNat < 128:=by
 have h:(kwText.data.toList.all fun b => decide (b.toNat < 128))=true:=by kernel_rfl
 intro j b hb;simpa using List.all_eq_true.1 h b (List.mem_of_getElem? hb)
theorem zoK (k:Nat) (hk:k < 24):keyWords[k]'(by exact hk) ∉ keyWords.take k:=by
 have h:((List.range 24).all fun k => !((keyWords.take k).contains (keyWords.getD k [])))=true:=by kernel_rfl
 have:=List.all_eq_true.1 h k (List.mem_range.2 hk);rw [show keyWords.getD k []=keyWords[k]'(by exact hk) by rw [List.getD,List.getElem?_eq_getElem (by exact hk)]; rfl] at this;simpa using this
def kwCells:Array Value:=(keyWords.map fun l => Value.string ⟨l.toArray⟩).toArray
theorem zml (w:World) (hT:Tabs w) :
  Calls Tryz.prog 48 #[] w fun e w' => ∃ mb,e = .returned (.map (some mb)) ∧ KeyMap w' mb ∧ w.heap.size ≤ mb ∧ Mods [] w w':=by
 have hM1:=(QM [] w).alloc (.map #[] 0);have hF:= Tryz.strings_Fields kwText (w.alloc (.map #[] 0)) AD zmk (hT.mods hM1).1;rw [zkr] at hF;have hb0:=QN w (.map #[] 0);have hMA:=hM1.alloc (.cells kwCells 9);have hb1:((w.alloc (.map #[] 0)).alloc (.cells kwCells 9)).heap[w.heap.size]? = some (.map #[] 0):=(QM [] _).alloc (.cells kwCells 9) |>.heap hb0 AB;have hg1:=QN (w.alloc (.map #[] 0)) (.cells kwCells 9);change Calls _ _ _ _ (fun e w' => e = .returned (.slice (some ⟨(w.alloc (.map #[] 0)).heap.size,0,none⟩) 24 24) ∧ w'=(w.alloc (.map #[] 0)).alloc (.cells kwCells 9)) at hF;rw [zl] at hg1 hF;clear hT hM1 hb0
 have hmm:(Instr.makeMap 147 none).run Tryz.prog w = .ok (.map (some w.heap.size)) (w.alloc (.map #[] 0)):=by rfl
 go_enter Tryz.func48, Tryz.ntmps48;go_wp2_with fail;refine hF.mono ?_;rintro e w2 ⟨rfl,rfl⟩;clear hF;go_wp2_with fail;generalize (w.alloc (.map #[] 0)).alloc (.cells kwCells 9)=w2 at *;generalize hmb:w.heap.size=mb at *;have HMB:=QH hmb;clear hmb;go_loopw [7] (fun t7 wr => ∃ k:Nat,k ≤ 24 ∧ t7 = .int .i64 k ∧ Mods [] w wr ∧ wr.heap[mb]? = some (.map (zV (keyWords.take k)) k) ∧ wr.heap[mb + 1]? = some (.cells kwCells 9 (0,0))) (fun t7 _ => 24 - (intOf t7).toNat)
 case atStart => exact ⟨0,by omega,rfl,hMA,hb1,hg1⟩
 case round =>
  clear hMA hb1 hg1;obtain ⟨k,hk,rfl,hM,hb,hg⟩:=hrel;by_cases hk24:k < 24
  ·have hw:kwCells[k]? = some (.string ⟨(keyWords[k]'BN).toArray⟩):=by
    show ((keyWords.map fun l => Value.string ⟨l.toArray⟩).toArray)[k]? = _;rw [List.getElem?_toArray,List.getElem?_map,List.getElem?_eq_getElem BN]; rfl
   have hc:=(za hg k).trans hw;have hnew:=zmi (keyWords.take k) ⟨(keyWords[k]'BN).toArray⟩ (zoK k hk24)
   have hup:=zgg (P:= Tryz.prog) 147 9 195 .string Tryz.underlying147 Tryz.underlying9 wr mb _ k hb (.string ⟨(keyWords[k]'BN).toArray⟩) (.agg #[]) trivial hnew
   have e1:(zV (keyWords.take k)).push { key:=.string ⟨(keyWords[k]'BN).toArray⟩,val:=.agg #[],born:=k }=zV (keyWords.take (k + 1)):=by have:=zg8 (keyWords.take k) (keyWords[k]'BN);rw [List.length_take,Nat.min_eq_left (show k ≤ keyWords.length from Nat.le_of_lt hk24)] at this;rw [this,List.take_succ_eq_append_getElem BN]
   rw [e1] at hup;have HB:=QH (zae (o':=.map (zV (keyWords.take (k + 1))) (k + 1)) hb);have HG:=QH ((((QM [mb] wr).setHeap (r:=mb) (.inl AB) (.map (zV (keyWords.take (k + 1))) (k + 1)))).heap hg);have HM:=QH (hM.setHeap (r:=mb) (.inr (by rw [HMB.out]; exact LR _)) (.map (zV (keyWords.take (k + 1))) (k + 1)));clear hw hnew hb hg hM e1;go_wp2_with fail;go_roundw
   case measure => simp [intOf]; omega
   case rel => exact ⟨k + 1,by omega,by go_num,HM.out,HB.out,HG.out⟩
  ·obtain rfl:k=24:=by omega
   have hk:KeyMap wr mb:=⟨24,hb⟩;clear hb hg;go_wp2_with fail;go_ret;exact ⟨mb,rfl,hk,by rw [HMB.out]; exact LR _,hM⟩
open Go.ChangeShapes Go.WideShapes Go.ChangeAt Go.RowKit
theorem zcF:ownKnob Tryz.prog.godebug=none:=by kernel_rfl
theorem zjr:laidOutB Tryz.prog=true:=by kernel_rfl
theorem zgi {P:Program} (hl:laidOutB P=true) {H:Type} {enc:TypeId × Value → H} {W W':World} (hb:Below W.heap.size W W') (ts:List TypeId):∀ (vs:List Value) (ds:List (DataW H)) (ps:List MemPlace),
  (∀ t ∈ ts,P.readableRec t=true ∧ t < P.types.size) → DataW.TrodAll enc P W 0 (fun _ => true) true ts vs ds ps → (∀ x ∈ ps,x.block < W.heap.size) →
  DataW.TrodAll enc P W' 0 (fun b => decide (b < W.heap.size)) true ts vs ds ps:=by
 induction ts with
 | nil =>intro vs ds ps _ h _;obtain ⟨rfl,rfl,rfl⟩:=trodAll_nil h;exact trodAll_mk0
 | cons t ts ih =>intro vs ds ps ht h hp;obtain ⟨v,vs',d,ds',p,q,rfl,rfl,rfl,h1,h2⟩:=trodAll_cons h;obtain ⟨r1,r2⟩:=ht t (List.mem_cons_self ..);exact trodAll_cons_mk (Below.trod hl r1 r2 h1 hb (fun x hx => hp x (List.mem_append_left _ hx))) (ih vs' ds' q (fun t' ht' => ht t' (CM _ ht')) h2 (fun x hx => hp x (List.mem_append_right _ hx)))
theorem zks {P:Program} {ts:List TypeId} (h:(ts.all fun t => P.readableRec t && decide (t < P.types.size))=true):∀ t ∈ ts,P.readableRec t=true ∧ t < P.types.size:=by intro t ht;have:=List.all_eq_true.1 h t ht;simpa using this
theorem zgj {H:Type} {enc:TypeId × Value → H} {f:Func} {s:ChangeSpec} {W W':World} {args:Array Value} {ds gs:List (DataW H)} {before:List MemPlace}
  (hW:DataW.Whole enc Tryz.prog f.params.toList s.vars false W args.toList ds gs before) (hM:Mods [] W W')
  (hts:(f.params.toList.all fun t => Tryz.prog.readableRec t && decide (t < Tryz.prog.types.size))=true) (hvars:s.vars=[]) (hres:f.resultTypes = #[4])
  (hs1:(s.fn H (ds ++ [])).results=[.lit (.bool true)]) (hs2:(s.fn H (ds ++ [])).args=ds) (hs3:(s.fn H (ds ++ [])).vars=[]) :
  s.post enc Tryz.prog f false true false false W args (.bool true) W':=by
 have hb:Below W.heap.size W W':=hM.below _ (LR _) AB;have hlt:=hW.lt;have hW':=hW;obtain ⟨p,q,hA,hV,rfl,-,-⟩:=hW;rw [hvars] at hV;obtain ⟨rfl,rfl⟩:=trodVars_none hV;refine ⟨ds,[],p ++ [],[],p,[],hW',?_,?_,?_,hb.frame _,fun h => by cases h⟩
 ·rw [hs1,hres];exact trodAll_cons_mk (shut_bool Tryz.underlying4 _) trodAll_mk0
 ·rw [hs2];exact zgi zjr hb _ _ _ _ (zks hts) hA (fun x hx => hlt x AJ)
 ·rw [hs3,hvars];rfl
theorem zrH {a:Int} (h:(Lit.int .i64 a).wf=true) : -9223372036854775808 ≤ a ∧ a ≤ 9223372036854775807:=by simpa [Lit.wf,IntKind.min,IntKind.max,IntKind.signed,IntKind.bits] using h
open Go.ChangeShapes Go.WideShapes Go.ChangeAt Go.RowKit
noncomputable abbrev laidL:List (String × DataW Unit):=Rows.planJoinsRow.laid
theorem zjs:(Rows.laid_strings_asciiSpace:DataW Unit)=Lib.tabData .u8 Lib.asciiSpaceTab:=by kernel_rfl
theorem ziH : "*" ++ "errors.errorString" = "*errors.errorString":=by decide
theorem zmm (u:TypeId) (h : Tryz.prog.typeName? 3 u=some "*errors.errorString"):u = 338:=
 typeName_ptr_named (nm:= "errors.errorString") (by rw [ziH]; kernel_rfl) AC AD u (by rw [ziH]; exact h)
theorem zgk (os:Os) (args:Array Value):laidMetH Tryz.prog laidL ((World.laidAll Tryz.prog os laidL).forCall (fun _ _ => 0) ⟨#[],args,[]⟩).memory:=by rw [MakeChecks.laidMetH_plain _ _ _ AC];exact laidMet_laidAll _ AC AC
theorem zeN (os:Os) (args:Array Value):((World.laidAll Tryz.prog os laidL).forCall (fun _ _ => 0) ⟨#[],args,[]⟩).Shaped Tryz.prog:=
 World.shaped_of_ZipB AC AC
theorem znX {W:World} (hL:laidMetH Tryz.prog laidL W):Tabs W:=by rw [MakeChecks.laidMetH_plain _ _ _ AC] at hL;have h4:=hL.tail.tail.tail.tail;have h7:=h4.tail.tail.tail;refine ⟨Lib.tabIs_of_head (rest:=_) (g:= 1) (t:= 145) (e:= 5) (n:=256) AC AC Tryz.underlying145 Tryz.underlying5 AC AC (by rw [← zjs]; exact h7),?_⟩;obtain ⟨a,s,hv,-⟩:=laid_sentinel (g:= 7) (ti:= 237) (tp:= 338) (te:= 340) (ts:= 9) h4 AC AC Tryz.underlying237 zmm Tryz.underlying338 Tryz.underlying340 rfl rfl Tryz.underlying9 AC AC;have hc:=World.var?_cell (show Tryz.prog.globalNamed _=some 7 by kernel_rfl) hv 0;exact ⟨_,hc,.inr ⟨_,_,rfl⟩⟩
open Go.ChangeShapes Go.WideShapes Go.ChangeAt Go.RowKit Go.Deep
section
variable {H:Type} {enc:TypeId × Value → H} {P:Program} {w:World} {base:Nat} {spare:Nat → Bool} {held:Bool}
theorem zl3 {a:Addr} {v:Value} (h:w.cell? a=some v):a = ⟨a.block,a.off,none⟩:=by
 obtain ⟨b,o,s⟩:=a
 cases s with
 | none => rfl
 | some k =>
  unfold World.cell? at h;split at h
  ·simp at h
  ·cases h
theorem ziC {r:Reach} {b0:Nat} {t e:TypeId} {v:Value} {d:DataW H} {ps:List MemPlace} (ht:P.underlying t=some (.slice e)) (hC:0 < P.cellsOf e) (hval:Value.okWide P w r b0 t v) (h:DataW.Trod enc P w base spare held t v d ps) :
  ∃ (ao:Option Addr) (len cap:Nat),v = .slice ao len cap ∧ len ≤ 9223372036854775807 ∧ (0 < len → ∃ b off,ao=some ⟨b,off,none⟩ ∧ ∀ i,i < len → ∃ (cs:List Value) (n:Nat) (x:DataW H × List MemPlace),cs.length=P.cellsOf e ∧
   (∀ j,j < P.cellsOf e → w.cell? ⟨b,off + i * P.cellsOf e + j,none⟩ = cs[j]?) ∧ DataW.trod enc P w base spare held n e cs=some x):=by
 obtain ⟨ao,len,cap,rfl⟩:=okWide_slice ht hval;obtain ⟨fuel,hf⟩:=h;rcases open_slice ht hf with ⟨hcs,-⟩ | ⟨a,len',cap',m,n,D,Pl,hcs,-,hl,hm,hmm,-,hi⟩
 ·simp only [Value.cells,List.cons.injEq,Value.slice.injEq,and_true] at hcs;obtain ⟨rfl,rfl,rfl⟩:=hcs;exact ⟨none,0,0,rfl,by omega,fun h => by omega⟩
 ·simp only [Value.cells,List.cons.injEq,Value.slice.injEq,and_true] at hcs;obtain ⟨rfl,rfl,rfl⟩:=hcs;refine ⟨some a,len,cap,rfl,by unfold maxLen at hm; omega,fun h0 => ?_⟩;have hlm:len ≤ m:=by rw [hmm]; split <;> omega
  obtain ⟨cs0,hc0,-⟩:=hi 0 AA;obtain ⟨-,hcl0,hat0⟩:=World.cells?_some hc0;have h00:=hat0 0 hC;have ea:(a.add (0 * P.cellsOf e)).add 0=a:=by simp [Addr.add]
  rw [ea,List.getElem?_eq_getElem AA] at h00;have hsp:=zl3 h00;refine ⟨a.block,a.off,congrArg some hsp,fun i hil => ?_⟩;obtain ⟨cs,hc,ht'⟩:=hi i AA;obtain ⟨-,hcl,hat⟩:=World.cells?_some hc;refine ⟨cs,n,_,hcl,fun j hj => ?_,ht'⟩;rw [← hat j hj,hsp,zci,zci]
theorem zhI {e:TypeId} {fs:Array Field} {n:Nat} {cs:List Value} {x:DataW H × List MemPlace} (he:P.underlying e=some (.struct fs)) (hone:oneCellFields P fs=true) (hC:P.cellsOf e=fs.size) (h:DataW.trod enc P w base spare held n e cs=some x) {j:Nat} {f:Field} (hj:fs[j]? = some f) :
  ∃ (v:Value) (m:Nat) (y:DataW H × List MemPlace),cs[j]? = some v ∧ DataW.trod enc P w base spare held m f.type [v]=some y:=by
 obtain ⟨ys,m,-,-,hlen,hyl,hf⟩:=DataW.trod_struct he h;obtain ⟨ho,hk⟩:=hone_of hone j f hj;have hjl:j < fs.size:=(Array.getElem?_eq_some_iff.1 hj).1;have h1:=hf j f hj;rw [ho,hk,List.getElem?_eq_getElem AA] at h1;have hlt:j < cs.length:=by omega
 refine ⟨cs[j],m,ys[j]'AA,List.getElem?_eq_getElem hlt,?_⟩;have e1:List.take 1 (List.drop j cs)=[cs[j]]:=by rw [List.drop_eq_getElem_cons hlt]; rfl
 rw [e1] at h1;exact h1
theorem zq6 {e:TypeId} {n:Nat} {v:Value} {x:DataW H × List MemPlace} (he:P.underlying e=some (.int .i64)) (h:DataW.trod enc P w base spare held n e [v]=some x):∃ k:Int,v = .int .i64 k ∧ (-9223372036854775808 ≤ k ∧ k ≤ 9223372036854775807):=by obtain ⟨m,hc,-,hw⟩:=DataW.trod_int he h;exact ⟨m,by simpa using hc,zrH hw⟩
theorem zqv {e:TypeId} {n:Nat} {v:Value} {x:DataW H × List MemPlace} (he:P.underlying e=some .bool) (h:DataW.trod enc P w base spare held n e [v]=some x):∃ k:Bool,v = .bool k:=by obtain ⟨m,hc,-⟩:=DataW.trod_bool he h;exact ⟨m,by simpa using hc⟩
theorem ziD {e:TypeId} {n:Nat} {v:Value} {x:DataW H × List MemPlace} (he:P.underlying e=some .string) (h:DataW.trod enc P w base spare held n e [v]=some x):∃ s:ByteArray,v = .string s ∧ s.size ≤ 9223372036854775807:=by obtain ⟨m,hc,-,hm⟩:=DataW.trod_string he h;exact ⟨m,by simpa using hc,by unfold maxLen at hm; exact hm⟩
end
open Go.ChangeShapes Go.WideShapes Go.ChangeAt Go.RowKit Go.Deep
section
variable {H:Type} {enc:TypeId × Value → H} {P:Program} {w:World} {base:Nat} {spare:Nat → Bool} {held:Bool}
theorem zhJ {r:Reach} {b0:Nat} {t e:TypeId} {v:Value} {d:DataW H} {ps:List MemPlace} (ht:P.underlying t=some (.slice e)) (hC:0 < P.cellsOf e) (hval:Value.okWide P w r b0 t v) (h:DataW.Trod enc P w base spare held t v d ps) :
  ∃ (ao:Option Addr) (len cap:Nat),v = .slice ao len cap ∧ (len ≤ 9223372036854775807 ∧ len ≤ cap ∧ (ao=none → len=0)) ∧ (0 < len → ∃ b off,ao=some ⟨b,off,none⟩ ∧ ∀ i,i < len → ∃ (cs:List Value) (n:Nat) (x:DataW H × List MemPlace),cs.length=P.cellsOf e ∧
   (∀ j,j < P.cellsOf e → w.cell? ⟨b,off + i * P.cellsOf e + j,none⟩ = cs[j]?) ∧ DataW.trod enc P w base spare held n e cs=some x):=by
 obtain ⟨ao,len,cap,rfl⟩:=okWide_slice ht hval;have h':=h;obtain ⟨fuel,hf⟩:=h';obtain ⟨ao',len',cap',he,hl,hx⟩:=ziC ht hC hval h;simp only [Value.slice.injEq] at he;obtain ⟨rfl,rfl,rfl⟩:=he;refine ⟨ao,len,cap,rfl,?_,hx⟩;rcases open_slice ht hf with ⟨hcs,-⟩ | ⟨a,len',cap',m,n,D,Pl,hcs,-,hl2,hm,hmm,-,hi⟩
 ·simp only [Value.cells,List.cons.injEq,Value.slice.injEq,and_true] at hcs;obtain ⟨rfl,rfl,rfl⟩:=hcs;exact ⟨by omega,by omega,fun _ => rfl⟩
 ·simp only [Value.cells,List.cons.injEq,Value.slice.injEq,and_true] at hcs;obtain ⟨rfl,rfl,rfl⟩:=hcs;exact ⟨hl,hl2,fun h => by cases h⟩
end
structure Scan (w:World) (b:Nat) (s:ByteArray):Prop where
 row:∃ arr T mb,w.heap[b]? = some (.cells arr T (0,0)) ∧ arr[0]? = some (.string s) ∧ (∀ j,j < 256 → arr[1 + j]? = some (.int .u8 (kindB j:Int))) ∧ arr[257]? = some (.map (some mb)) ∧ KeyMap w mb
theorem Scan.mods {w w':World} {b:Nat} {s:ByteArray} (h:Scan w b s) (hM:Mods [] w w'):Scan w' b s:=by obtain ⟨arr,T,mb,h1,h2,h3,h4,h5⟩:=h.row;exact ⟨arr,T,mb,hM.heap h1,h2,h3,h4,h5.mods hM AB⟩
theorem Scan.text {w:World} {b:Nat} {s:ByteArray} (h:Scan w b s):w.cell? ⟨b,0,none⟩ = some (.string s):=by obtain ⟨arr,T,mb,h1,h2,-⟩:=h.row;rw [za h1]; exact h2
theorem Scan.kind {w:World} {b:Nat} {s:ByteArray} (h:Scan w b s) (j:Nat) (hj:j < 256):w.cell? ⟨b,1 + j,none⟩ = some (.int .u8 (kindB j:Int)):=by obtain ⟨arr,T,mb,h1,h2,h3,-⟩:=h.row;rw [za h1]; exact h3 j hj
theorem Scan.keys {w:World} {b:Nat} {s:ByteArray} (h:Scan w b s):∃ mb,w.cell? ⟨b,257,none⟩ = some (.map (some mb)) ∧ KeyMap w mb:=by obtain ⟨arr,T,mb,h1,h2,h3,h4,h5⟩:=h.row;exact ⟨mb,by rw [za h1]; exact h4,h5⟩
theorem zkt {α:Type} (p:α → Bool):∀ (l:List α) (k:Nat),(∀ j,j < k → ∃ x,l[j]? = some x ∧ p x=true) → (l[k]? = none ∨ ∃ x,l[k]? = some x ∧ p x=false) → (l.takeWhile p).length=k
 | [],0,_,_ => rfl
 | [],k + 1,h,_ => by obtain ⟨x,hx,-⟩:=h 0 AA; simp at hx
 | a :: l,0,_,h => by
  rcases h with h | ⟨x,hx,hp⟩
  ·simp at h
  ·simp at hx; subst hx; simp [hp]
 | a :: l,k + 1,h,h2 => by obtain ⟨x,hx,hp⟩:=h 0 AA;simp at hx; subst hx;rw [List.takeWhile_cons,if_pos hp,List.length_cons,zkt p l k (fun j hj => by simpa using h (j + 1) AA) (by simpa using h2)]
def runL (p:UInt8 → Bool) (s:ByteArray) (at_:Nat):Nat:=((s.data.toList.drop at_).takeWhile p).length
theorem zeO (p:UInt8 → Bool) (s:ByteArray) (at_:Nat) (h:at_ ≤ s.size):at_ + runL p s at_ ≤ s.size:=by
 have h1:=zbx p (s.data.toList.drop at_);have h2:(s.data.toList.drop at_).length=s.size - at_:=by rw [List.length_drop]; rfl
 unfold runL; omega
def Mask (m:Nat) (p:UInt8 → Bool):Prop:=m < 256 ∧ ∀ c:UInt8,(p c=true → ¬ bits .and .u8 (kindB c.toNat:Int) (m:Int)=0) ∧ (p c=false → bits .and .u8 (kindB c.toNat:Int) (m:Int)=0)
theorem zeq (c:UInt8):(zah c=true ∧ kindB c.toNat=2) ∨ (zah c=false ∧ zC c=true ∧ kindB c.toNat=4) ∨ (zah c=false ∧ zC c=false ∧ zbs c=true ∧ kindB c.toNat=1) ∨ (zah c=false ∧ zC c=false ∧ zbs c=false ∧ kindB c.toNat=0):=by
 simp only [zah,zC,zbs,kindB];generalize c.toNat=n;by_cases h1:(97 ≤ n ∧ n ≤ 122) ∨ (65 ≤ n ∧ n ≤ 90) ∨ n=95
 ·left;rw [if_pos h1];simp; omega
 ·right;rw [if_neg h1];by_cases h2:48 ≤ n ∧ n ≤ 57
  ·left;rw [if_pos h2];simp; omega
  ·right;rw [if_neg h2];by_cases h3:n=32 ∨ n=9 ∨ n=10 ∨ n=13
   ·left; rw [if_pos h3]; simp; omega
   ·right; rw [if_neg h3]; simp; omega
theorem znI {c:UInt8} (h:zah c=true ∨ zC c=true):zbs c=false:=by
 rcases h with h | h
 ·exact zg4 h
 ·exact (zdS h).2
theorem znY:Mask 6 zb0:=by refine ⟨by decide,fun c => ?_⟩;rcases zeq c with ⟨h1,h2⟩ | ⟨h1,h2,h3⟩ | ⟨h1,h2,h3,h4⟩ | ⟨h1,h2,h3,h4⟩ <;> simp only [zb0,Bool.true_or,Bool.false_or,Bool.or_false, *] <;> decide
theorem mask_dig:Mask 4 zC:=by
 refine ⟨by decide,fun c => ?_⟩;rcases zeq c with ⟨h1,h2⟩ | ⟨h1,h2,h3⟩ | ⟨h1,h2,h3,h4⟩ | ⟨h1,h2,h3,h4⟩
 ·have:zC c=false:=by
   cases hd:zC c with
   | false => rfl
   | true => rw [(zdS hd).1] at h1; cases h1
  simp only [*]; decide
 all_goals simp only [*]; decide
theorem mask_let:Mask 2 zah:=by refine ⟨by decide,fun c => ?_⟩;rcases zeq c with ⟨h1,h2⟩ | ⟨h1,h2,h3⟩ | ⟨h1,h2,h3,h4⟩ | ⟨h1,h2,h3,h4⟩ <;> simp only [*] <;> decide
theorem zku:Mask 1 zbs:=by
 refine ⟨by decide,fun c => ?_⟩;rcases zeq c with ⟨h1,h2⟩ | ⟨h1,h2,h3⟩ | ⟨h1,h2,h3,h4⟩ | ⟨h1,h2,h3,h4⟩
 ·have:=znI (.inl h1); simp only [*]; decide
 ·have:=znI (.inr h2); simp only [*]; decide
 all_goals simp only [*]; decide
theorem s_at (s:ByteArray) (k:Nat) (h:k < s.size):s.data.toList[k]? = some s[k]:=Lib.data_getElem? s k h
theorem zdT (w:World) (b:Nat) (s:ByteArray) (hS:Scan w b s) (hs:s.size ≤ 9223372036854775807) (at_:Nat) (hat:at_ ≤ s.size) (m:Nat) (p:UInt8 → Bool) (hm:Mask m p) :
  Calls Tryz.prog 49 #[.pointer (some ⟨b,0,none⟩),.int .i64 at_,.int .u8 m] w fun e w' => e = .returned (.int .i64 (runL p s at_)) ∧ Mods [] w w':=by
 have HM:=QH hm;have HS:=QH hS;clear hm hS;go_enter Tryz.func49, Tryz.ntmps49;go_wp2_with fail;go_loopw [7] (fun t7 wr => ∃ k:Nat,at_ + k ≤ s.size ∧ t7 = .int .i64 k ∧ Mods [] w wr ∧ Hid (∀ j,j < k → ∃ x,s.data.toList[at_ + j]? = some x ∧ p x=true)) (fun t7 _ => s.size - (intOf t7).toNat)
 case atStart => exact ⟨0,by omega,rfl,QM _ _,QH (fun j hj => by omega)⟩
 case round =>
  obtain ⟨k,hk,rfl,hM,hP⟩:=hrel;have hSr:=HS.out.mods hM;have c0:=hSr.text;have e1:IntKind.i64.wrap ((at_:Int) + (k:Int))=(at_:Int) + (k:Int):=IntWalk.i64_in _ AA;by_cases hlt:at_ + k < s.size
  ·have e2:(0:Int) ≤ (at_:Int) + (k:Int):=by omega
   have e3:((at_:Int) + (k:Int)).toNat=at_ + k:=by omega
   have hd:decide ((at_:Int) + (k:Int) < (s.size:Int))=true:=by simp; omega
   have hx:=s_at s (at_ + k) hlt;obtain ⟨x,hx'⟩ : ∃ x,s[at_ + k]=x:=⟨_,rfl⟩;rw [hx'] at hx;have hx256:=UInt8.toNat_lt x;have hkd:=hSr.kind x.toNat AA;have hxz:(x.toNat:Int) < 256:=by omega
   have HX:=QH hx
   cases hpx:p x with
   | true =>
    have hbit:(bits .and .u8 (kindB x.toNat:Int) (m:Int) != 0)=true:=by rw [bne_iff_ne]; exact (HM.out.2 x).1 hpx
    have HPX:=QH hpx;clear hx hpx;go_wp2_with fail;go_quiet (fail);have hMy:=hM.drewN nq;generalize wr.drewN nq=wy at *;clear e1 e2 e3;go_wp2_with fail;go_roundw
    case measure => simp [intOf]; omega
    case rel =>
     refine ⟨k + 1,by omega,by go_num,hMy,QH (fun j hj => ?_)⟩;by_cases hjk:j=k
     ·subst hjk; exact ⟨x,HX.out,HPX.out⟩
     ·exact hP.out j AA
   | false =>
    have hbit:(bits .and .u8 (kindB x.toNat:Int) (m:Int) != 0)=false:=by rw [bne_eq_false_iff_eq]; exact (HM.out.2 x).2 hpx
    have fin:runL p s at_=k:=zkt p _ k (fun j hj => by rw [List.getElem?_drop]; exact hP.out j hj) (.inr ⟨x,by rw [List.getElem?_drop]; exact HX.out,hpx⟩);have FIN:=QH fin;clear hx hpx fin;go_wp2_with fail;go_quiet (fail);have hMy:=hM.drewN nq;generalize wr.drewN nq=wy at *;clear e1 e2 e3;go_wp2_with fail;go_ret;exact ⟨zdQ (congrArg Int.ofNat FIN.out.symm),hMy⟩
  ·have hd:decide ((at_:Int) + (k:Int) < (s.size:Int))=false:=by simp; omega
   have fin:runL p s at_=k:=zkt p _ k (fun j hj => by rw [List.getElem?_drop]; exact hP.out j hj) (.inl (by rw [List.getElem?_drop,List.getElem?_eq_none]; show s.size ≤ _; omega));have FIN:=QH fin;clear fin;go_wp2_with fail;go_quiet (fail);have hMy:=hM.drewN nq;generalize wr.drewN nq=wy at *;clear e1;go_wp2_with fail;go_ret;exact ⟨zdQ (congrArg Int.ofNat FIN.out.symm),hMy⟩
end Go.Proofs.YtcabeljiobiojaaGreatDoor
