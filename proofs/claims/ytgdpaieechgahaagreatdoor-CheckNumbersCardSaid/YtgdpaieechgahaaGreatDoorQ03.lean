/-
  strings.Builder, wherever it lies in a block of cells (a variable of its own, or a struct's field): copyCheck, WriteString, Len, String. No conditions but the length's bound.
-/
import Derived.Test.YtgdpaieechgahaaGreatDoorQ02
import Derived.Lib.Builder
import Derived.Lib.AppendStr
import Derived.Lib.UnsafeStr
import Derived.Laws.Externs
namespace Go.Proofs.YtgdpaieechgahaaGreatDoor
open Go.RowKit
set_option linter.unusedVariables false
theorem zie {s:ByteArray} (h:s.size=0):s=ByteArray.empty:=by
 obtain ⟨d⟩:=s
 have h1:d.size=0:=h
 rw [Array.size_eq_zero_iff.1 h1]
 rfl
theorem Mods.freeze {L:List Nat} {a w:World} (h:Mods L a w) {p:Addr} (hp:p.block ∈ L ∨ a.heap.size ≤ p.block) (n:Nat):Mods L a (w.freeze p n):=by
 refine h.trans (L':=[p.block]) ?_ (by simpa using hp)
 unfold World.freeze
 split
 ·exact Mods.refl _ w
 ·exact ⟨rfl,rfl,rfl,by simp,fun k hk hn => by
   simp only [Array.getElem?_modify]
   have hne:¬ p.block=k:=fun e => hn (by simp [e])
   simp [hne]⟩
theorem zbR {P:Program} (w:World) (t u ty e:TypeId) (i:TypeInfo) (ht:P.underlying t=some (.slice e)) (hu:P.underlying u=some .string) (hi:P.info? e=some i) (hz:i.zero=some (.int .u8 0))
  (hsize:i.size=1) (hby:i.bytes=1)
  (v:Value) (n:Nat) (xs:List Value) (hown:w.ownsRow 0 e 1 v n xs) (s:ByteArray)
  (h63:n + s.size ≤ maxLen) (hbytes:n + s.size ≤ 140737488355328) :
  ∃ v' w',(Builtin.append_ #[t,u] ty #[v,.string s]).run P w = .ok v' w' ∧ w'.ownsRow 0 e 1 v' (n + s.size) (xs ++ Lib.strCells s) ∧ w.grownBy w' v.ownBlock ∧
   (v' = .slice none 0 0 ↔ v = .slice none 0 0 ∧ s.size=0) ∧ ∀ g,v'.ownBlock=some g → v.ownBlock=some g ∨ w.heap.size ≤ g:=by
 obtain ⟨v',w',hr,h1,h2,h3⟩:=Lib.run_append_own_string (P:=P) w 0 t u ty e i ht hu hi hz hsize hby v n xs hown s h63 hbytes (Nat.zero_le _)
 refine ⟨v',w',hr,h1,h2,h3,fun g hg => ?_⟩
 have hsmall:n + s.size ≤ 9223372036854775807:=by simp only [maxLen] at h63; omega
 have hxl:xs.length=n:=by simpa using hown.1
 rcases hown.2 with ⟨rfl,rfl⟩ | ⟨g0,cap,cur,rfl,hbg,hgg,hnc,hcm,hcs,htake⟩
 ·by_cases hm:s.size=0
  ·rw [h3.2 ⟨rfl,hm⟩] at hg; cases hg
  ·have hr2:=run_append_nil_string (P:=P) w t u ty e i (.int .u8 0) ht hu hi hz s (by omega) (by omega) (by rw [hby]; omega)
   rw [hr2] at hr
   injection hr with e1 e2
   subst e1
   simp only [Value.ownBlock,Option.some.injEq] at hg
   exact .inr (by omega)
 ·by_cases hroom:n + s.size ≤ cap
  ·have hcs':cur.size=cap:=by simpa using hcs
   have hr2:=Lib.run_append_room_string (P:=P) w t u ty e i ht hu hi hsize g0 n cap cur hgg s hroom (by omega)
   rw [hr2] at hr
   injection hr with e1 e2
   subst e1
   exact .inl hg
  ·have holds:∀ j u,xs[j]? = some u → w.cell? ((⟨g0,0,none⟩ : Addr).add j)=some u:=hown.cells (g:=g0) rfl
   have hr2:=Lib.run_append_grow_string (P:=P) w t u ty e i (.int .u8 0) ht hu hi hz ⟨g0,0,none⟩ n cap xs (by rw [hsize]; simpa using hxl) holds s (by omega) (by omega) (by rw [hby]; exact growslice_fits (by omega) (by omega))
   rw [hr2] at hr
   injection hr with e1 e2
   subst e1
   simp only [Value.ownBlock,Option.some.injEq] at hg
   exact .inr (by omega)
theorem zby {P:Program} {w:World} {ops:Array Oper} {rest:List Oper} {o:Oper} {a:Act} {Q:Exit → Act → World → Prop} (hgd:o.guard=none) (sl x:Operand) (t u:TypeId)
  (ho:o.op = .call { callee:=.builtin .append,args:=#[sl,x],argTypes:=#[t,u] })
  (e:TypeId) (i:TypeInfo) (ht:P.underlying t=some (.slice e)) (hu:P.underlying u=some .string) (hi:P.info? e=some i) (hz:i.zero=some (.int .u8 0))
  (hsize:i.size=1) (hby:i.bytes=1)
  (v:Value) (n:Nat) (xs:List Value) (hs:a.eval sl=v) (hown:w.ownsRow 0 e 1 v n xs) (s:ByteArray) (hx:a.eval x = .string s)
  (h63:n + s.size ≤ maxLen) (hbytes:n + s.size ≤ 140737488355328)
  (h:∀ v' w',w'.ownsRow 0 e 1 v' (n + s.size) (xs ++ Lib.strCells s) → Mods v.ownBlock.toList w w' → (v' = .slice none 0 0 ↔ v = .slice none 0 0 ∧ s.size=0) → (∀ g,v'.ownBlock=some g → v.ownBlock=some g ∨ w.heap.size ≤ g) → wpList P ops Q rest (a.put o.dst v') w'):wpList P ops Q (o :: rest) a w:=by
 refine wpList_plain hgd fun K hK => ?_
 obtain ⟨v',w',hr,h2,h3,h4,h5⟩:=zbR (P:=P) w t u o.type e i ht hu hi hz hsize hby v n xs hown s h63 hbytes
 unfold Oper.wp execOp
 simp only [ho,resolve,invoke,builtin,Sem.run_bind,Sem.run_pure,Result.andThen_ok,List.map_toArray,List.map_cons,List.map_nil,hs,hx,hr]
 exact hK _ _ (h v' w' h2 (Mods.of_grown h3) h4 h5)
structure Lies (T:TypeId) (n o:Nat):Prop where
 lies:liesAt Tryz.prog Tryz.prog.depth T (n / Tryz.prog.cellsOf T) o 152 1=true
 lt:o + 2 ≤ n
 ne:T ≠ 5
theorem zff:Lies 152 2 0:=⟨by kernel_rfl,by decide,by decide⟩
structure Bld (w:World) (b o:Nat) (T:TypeId) (arr:Array Value) (v:Value) (bs:List UInt8):Prop where
 row:w.heap[b]? = some (.cells arr T (0,0))
 a0:arr[o]? = some (.pointer none) ∨ arr[o]? = some (.pointer (some ⟨b,o,none⟩))
 a1:arr[o + 1]? = some v
 own:w.ownsRow 0 5 1 v bs.length (Lib.byteCells bs)
 nil:bs=[] → v = .slice none 0 0
theorem zbL:(Tryz.prog.info? 152).map (·.size)=some 2:=by kernel_rfl
set_option maxRecDepth 100000 in
theorem zcP (b o:Nat) (w:World) (h0:w.cell? ⟨b,o,none⟩ = some (.pointer (some ⟨b,o,none⟩))) :
  Calls Tryz.prog 101 #[.pointer (some ⟨b,o,none⟩)] w fun e w' => e = .returned (.tuple #[]) ∧ w'=w:=by
 obtain ⟨j,hj,_⟩:=Option.map_eq_some_iff.1 zbL
 go_enter Tryz.func101, Tryz.ntmps101
 go_wp2
 rw [Lib.run_neq_ptr_same w _ Tryz.underlying150 hj]
 go_wp2
 go_end0
 exact ⟨rfl,rfl⟩
set_option maxRecDepth 100000 in
theorem zch (b o n:Nat) (T:TypeId) (hl:Lies T n o) (w:World) (h0:w.cell? ⟨b,o,none⟩ = some (.pointer none)) (hsh:w.shape? b=some (T,n)) (hfz:w.frozen? ⟨b,o,none⟩ = false) :
  Calls Tryz.prog 101 #[.pointer (some ⟨b,o,none⟩)] w fun e w' => e = .returned (.tuple #[]) ∧ w'=w.setCell ⟨b,o,none⟩ (.pointer (some ⟨b,o,none⟩)):=by
 obtain ⟨j,hj,hjs⟩:=Option.map_eq_some_iff.1 zbL
 have hlt:=hl.lt
 go_enter Tryz.func101, Tryz.ntmps101
 go_wp2
 rw [Lib.run_to_unsafe w ⟨b,o,none⟩ Tryz.underlying150 Tryz.underlying218 hj (by rw [hjs]; decide) hsh (by show o < n; omega)]
 simp only [Result.andThen]
 rw [Oper.upon_value]
 go_wp2
 rw [run_callFunc_extern Tryz.func135 (by kernel_rfl) (by kernel_rfl) (by kernel_rfl) (e:=Extern.AbiNoEscape.same) (by kernel_rfl)]
 rw [Lib.run_noEscape]
 simp only [Result.andThen]
 rw [Oper.upon_value]
 go_wp2
 rw [Lib.run_from_unsafe w ⟨b,o,none⟩ Tryz.underlying218 Tryz.underlying150 hj hsh hl.lies]
 simp only [Result.andThen]
 rw [Oper.upon_value]
 go_wp2
 go_end0
 exact ⟨rfl,rfl⟩
section
variable {w:World} {b o:Nat} {T:TypeId} {arr:Array Value} {v:Value} {bs:List UInt8}
theorem Bld.cell0 (h:Bld w b o T arr v bs):w.cell? ⟨b,o,none⟩ = some (.pointer none) ∨ w.cell? ⟨b,o,none⟩ = some (.pointer (some ⟨b,o,none⟩)):=by
 rw [za h.row]; exact h.a0
theorem Bld.cell1 (h:Bld w b o T arr v bs):w.cell? ⟨b,o + 1,none⟩ = some v:=by rw [za h.row]; exact h.a1
theorem Bld.ne (h:Bld w b o T arr v bs) (hT:T ≠ 5):v.ownBlock ≠ some b:=Lib.ownBlock_ne h.own h.row hT
theorem Bld.slice (h:Bld w b o T arr v bs):∃ ao cap,v = .slice ao bs.length cap:=by
 rcases h.own.2 with ⟨hv,h0⟩ | ⟨g,cap,cur,hv,_⟩
 ·exact ⟨none,0,by rw [hv,h0]⟩
 ·exact ⟨_,_,hv⟩
theorem zbe {n:Nat} (hl:Lies T n o) (hn:arr.size=n) (h:Bld w b o T arr v bs) :
  Calls Tryz.prog 101 #[.pointer (some ⟨b,o,none⟩)] w fun e w' => e = .returned (.tuple #[]) ∧ w'.heap[b]? = some (.cells (arr.setIfInBounds o (.pointer (some ⟨b,o,none⟩))) T (0,0)) ∧ Mods [b] w w':=by
 rcases h.cell0 with h0 | h0
 ·refine (zch b o n T hl w h0 (by simp [World.shape?,h.row,hn]) (zd h.row o)).mono ?_
  rintro e w' ⟨rfl,rfl⟩
  exact ⟨rfl,zb h.row _ _,(Mods.refl _ w).setCell (.inl (by simp)) _⟩
 ·refine (zcP b o w h0).mono ?_
  rintro e w' ⟨rfl,rfl⟩
  refine ⟨rfl,?_,Mods.refl _ _⟩
  rw [h.row]
  congr 2
  rw [za h.row] at h0
  apply Array.ext_getElem?
  intro i
  rw [Array.getElem?_setIfInBounds]
  split
  ·rename_i hi
   subst hi
   split
   ·rw [h0]
   ·rename_i hlt
    rw [Array.getElem?_eq_none (by omega)]
  ·rfl
def Wrote (w:World) (b o:Nat) (T:TypeId) (arr:Array Value) (v:Value) (bs:List UInt8) (w':World):Prop:=
 Mods (b :: v.ownBlock.toList) w w' ∧ ∃ v',Bld w' b o T ((arr.setIfInBounds o (.pointer (some ⟨b,o,none⟩))).setIfInBounds (o + 1) v') v' bs ∧ ∀ g,v'.ownBlock=some g → v.ownBlock=some g ∨ w.heap.size ≤ g
set_option maxHeartbeats 1000000 in
set_option maxRecDepth 100000 in
theorem zci {n:Nat} (hl:Lies T n o) (hn:arr.size=n) (h:Bld w b o T arr v bs) (s:ByteArray) (hlen:bs.length + s.size ≤ 140737488355328) :
  Calls Tryz.prog 69 #[.pointer (some ⟨b,o,none⟩),.string s] w fun e w' => e = .returned (.tuple #[.int .i64 s.size,.nilIface]) ∧ Wrote w b o T arr v (bs ++ s.data.toList) w':=by
 obtain ⟨i0,hi,hz0,hz1,hz2⟩:=info_parts zgJ
 have hlt:=hl.lt
 have hne:=h.ne hl.ne
 go_enter Tryz.func69, Tryz.ntmps69
 go_wp2_with fail
 refine (zbe hl hn h).mono ?_
 rintro e w1 ⟨rfl,hb1,hM1⟩
 have hown1:w1.ownsRow 0 5 1 v bs.length (Lib.byteCells bs):=zl h.own hM1 (fun g hg => by simp; rintro rfl; exact hne hg)
 have c1:w1.cell? ⟨b,o + 1,none⟩ = some v:=by
  rw [za hb1,Array.getElem?_setIfInBounds_ne (by omega)]; exact h.a1
 go_wp2_with (at_builtin; refine zby rfl _ _ 73 9 rfl 5 i0 Tryz.underlying73 Tryz.underlying9 hi hz0 hz1 hz2 _ _ _ rfl hown1 s rfl ?c3 ?c4 ?_)
 case c3 => unfold maxLen; omega
 case c4 => omega
 intro v' w2 hown' hM2 hnil hwhere
 have hb2:w2.heap[b]? = some (.cells (arr.setIfInBounds o (.pointer (some ⟨b,o,none⟩))) T (0,0)):=hM2.heap hb1 (by simpa using hne)
 have d1:w2.cell? ⟨b,o + 1,none⟩ = some v:=by
  rw [za hb2,Array.getElem?_setIfInBounds_ne (by omega)]; exact h.a1
 have f1:w2.frozen? ⟨b,o + 1,none⟩ = false:=zd hb2 _
 obtain ⟨ao,n',cap,rfl⟩ : ∃ ao n' cap,v' = .slice ao n' cap:=by
  rcases hown'.2 with ⟨hv,_⟩ | ⟨g,cap,cur,hv,_⟩
  ·exact ⟨_,_,_,hv⟩
  ·exact ⟨_,_,_,hv⟩
 go_wp2
 go_ret2
 have hne':=Lib.ownBlock_ne hown' hb2 hl.ne
 have hM3:Mods [b] w2 (w2.setCell ⟨b,o + 1,none⟩ (.slice ao n' cap)):=(Mods.refl _ w2).setCell (.inl (by simp)) _
 refine ⟨rfl,((hM1.mono (by simp)).trans hM2 (by simp; intro x hx; exact .inl (.inr hx))).trans hM3 (by simp),_,⟨zb hb2 _ _,?_,?_,?_,?_⟩,?_⟩
 ·right
  rw [Array.getElem?_setIfInBounds_ne (by omega),Array.getElem?_setIfInBounds_self_of_lt (by omega)]
 ·rw [Array.getElem?_setIfInBounds_self_of_lt (by rw [Array.size_setIfInBounds]; omega)]
 ·have:=zl hown' hM3 (fun g hg => by simp; rintro rfl; exact hne' hg)
  rw [Lib.strCells_eq,← Lib.byteCells_append] at this
  have e1:bs.length + s.size=(bs ++ s.data.toList).length:=by rw [List.length_append,Array.length_toList]; rfl
  rw [e1] at this
  exact this
 ·intro h0
  have h1:=List.append_eq_nil_iff.1 h0
  refine hnil.2 ⟨h.nil h1.1,?_⟩
  have h2:=congrArg List.length h1.2
  rw [Array.length_toList] at h2
  have h3:s.size=0:=h2
  first | exact h3 | exact zie h3
 ·intro g hg
  rcases hwhere g hg with h1 | h1
  ·exact .inl h1
  ·exact .inr (by have:=hM1.size; omega)
set_option maxHeartbeats 1000000 in
set_option maxRecDepth 100000 in
theorem zi9 (h:Bld w b o T arr v bs):Calls Tryz.prog 99 #[.pointer (some ⟨b,o,none⟩)] w fun e w' => e = .returned (.int .i64 bs.length) ∧ w'=w:=by
 obtain ⟨ao,cap,rfl⟩:=h.slice
 have c1:=h.cell1
 go_enter Tryz.func99, Tryz.ntmps99
 go_wp2
 go_ret
 exact ⟨rfl,rfl⟩
set_option maxHeartbeats 1000000 in
set_option maxRecDepth 100000 in
theorem zfP (h:Bld w b o T arr v bs):Calls Tryz.prog 70 #[.pointer (some ⟨b,o,none⟩)] w fun e w' => e = .returned (.string ⟨bs.toArray⟩) ∧ Mods v.ownBlock.toList w w':=by
 cases bs with
 | nil =>
  obtain rfl:=h.nil rfl
  have c1:w.drew.cell? ⟨b,o + 1,none⟩ = some (.slice none 0 0):=h.cell1
  have hUS:=fun (W:World) (q:Option Addr) => Lib.run_unsafeString_none (P:= Tryz.prog) W 185 3 9 q
  have hSD:(Builtin.unsafeSliceData_ #[73] 185 #[.slice none 0 0]).run Tryz.prog w.drew = .ok (.pointer none) w.drew:=rfl
  go_enter Tryz.func70, Tryz.ntmps70
  go_wp2
  go_region
  all_goals (go_wp2; go_ret; exact ⟨rfl,(Mods.refl _ w).drew⟩)
 | cons x l =>
  have hc:=h.cell1
  obtain ⟨g,cap,cur,rfl,hg,hnc,hcm,hcs⟩ : ∃ g cap cur,v = .slice (some ⟨g,0,none⟩) (x :: l).length cap ∧ w.heap[g]? = some (.cells cur 5 (0,0)) ∧ (x :: l).length ≤ cap ∧ cap ≤ maxLen ∧ cur.size=cap * 1:=by
   rcases h.own.2 with ⟨_,hz⟩ | ⟨g,cap,cur,hv,_,r1,r2,r3,r4,r5⟩
   ·simp at hz
   ·exact ⟨g,cap,cur,hv,r1,r2,r3,r4⟩
  have c1:w.drew.cell? ⟨b,o + 1,none⟩ = some (.slice (some ⟨g,0,none⟩) (x :: l).length cap):=hc
  have hSD:(Builtin.unsafeSliceData_ #[73] 185 #[.slice (some ⟨g,0,none⟩) (x :: l).length cap]).run Tryz.prog w.drew = .ok (.pointer (some ⟨g,0,none⟩)) w.drew:=
   Lib.run_unsafeSliceData_row _ _ _ _ _ _ (by simp at hnc; omega)
  have hUS:(Builtin.unsafeString_ #[185, 3] 9 #[.pointer (some ⟨g,0,none⟩),.int .i64 (x :: l).length]).run Tryz.prog w.drew = .ok (.string ⟨(x :: l).toArray⟩) (w.drew.freeze ⟨g,0,none⟩ (x :: l).length):=by
   refine Lib.run_unsafeString_row w.drew 185 3 9 5 Tryz.underlying185 (by kernel_rfl) g cur.size (by have hg':w.drew.heap[g]? = some (.cells cur 5 (0,0)):=hg; simp [World.shape?,hg']) (x :: l) (by simp) (by omega) (by unfold maxLen at hcm; omega) ?_
   intro j y hy
   exact h.own.cells (g:=g) rfl j (.int .u8 y.toNat) (by unfold Lib.byteCells; rw [List.getElem?_map,hy]; rfl)
  have hM:Mods [g] w (w.drew.freeze ⟨g,0,none⟩ (x :: l).length):=(Mods.refl _ w).drew.freeze (.inl (by simp)) _
  generalize (x :: l).length=N at *
  generalize (x :: l).toArray=S at *
  go_enter Tryz.func70, Tryz.ntmps70
  go_wp2
  go_region
  all_goals (go_wp2; go_ret; exact ⟨rfl,hM⟩)
end
open Go.RowKit
set_option linter.unusedVariables false
section
variable {w:World} {b o:Nat} {T:TypeId} {arr:Array Value} {v:Value} {bs:List UInt8}
set_option maxHeartbeats 1000000 in
set_option maxRecDepth 100000 in
theorem zdo {n:Nat} (hl:Lies T n o) (hn:arr.size=n) (h:Bld w b o T arr v bs) (c:UInt8) (hlen:bs.length + 1 ≤ 140737488355328) :
  Calls Tryz.prog 91 #[.pointer (some ⟨b,o,none⟩),.int .u8 (c.toNat:Int)] w fun e w' => e = .returned .nilIface ∧ Wrote w b o T arr v (bs ++ [c]) w':=by
 obtain ⟨i0,hi,hz0,hz1,hz2⟩:=info_parts zgJ
 have hlt:=hl.lt
 have hne:=h.ne hl.ne
 go_enter Tryz.func91, Tryz.ntmps91
 go_wp2_with fail
 refine (zbe hl hn h).mono ?_
 rintro e w1 ⟨rfl,hb1,hM1⟩
 have hown1:w1.ownsRow 0 5 1 v bs.length (Lib.byteCells bs):=zl h.own hM1 (fun g hg => by simp; rintro rfl; exact hne hg)
 have hMA:=(Mods.refl [] w1).alloc (.cells #[.int .u8 (c.toNat:Int)] 5)
 have hb1':=hMA.heap hb1 (by simp)
 have c1:w1.cell? ⟨b,o + 1,none⟩ = some v:=by
  rw [za hb1,Array.getElem?_setIfInBounds_ne (by omega)]; exact h.a1
 have hlt1:=zi hb1
 go_wp2_with (at_builtin; refine zr _ rfl _ _ 73 rfl 5 i0 _ 1 1 Tryz.underlying73 hi hz0 hz1 hz2 rfl (by decide) v bs.length (Lib.byteCells bs) rfl (hown1.alloc _) ⟨w1.heap.size,0,none⟩ 1 1 [.int .u8 (c.toNat:Int)] rfl rfl (cell_one_new _ _ _) ?c2 (by decide) ?c3 ?c4 ?_)
 case c2 => intro u hu; simp at hu; subst hu; rfl
 case c3 => unfold maxLen; omega
 case c4 => omega
 intro g cap w2 hown' hM2 hwhere
 have hb2:w2.heap[b]? = some (.cells (arr.setIfInBounds o (.pointer (some ⟨b,o,none⟩))) T (0,0)):=hM2.heap hb1' (by simpa using hne)
 have d1:w2.cell? ⟨b,o + 1,none⟩ = some v:=by
  rw [za hb2,Array.getElem?_setIfInBounds_ne (by omega)]; exact h.a1
 have f1:w2.frozen? ⟨b,o + 1,none⟩ = false:=zd hb2 _
 go_wp2
 go_ret
 have hne':=Lib.ownBlock_ne hown' hb2 hl.ne
 have hM3:Mods [b] w2 (w2.setCell ⟨b,o + 1,none⟩ (.slice (some ⟨g,0,none⟩) (bs.length + 1) cap)):=(Mods.refl _ w2).setCell (.inl (by simp)) _
 have hsz:(w1.alloc (.cells #[.int .u8 (c.toNat:Int)] 5)).heap.size=w1.heap.size + 1:=zk _ _
 refine ⟨rfl,(((hM1.mono (by simp)).trans hMA (by simp)).trans hM2 (by simp; intro x hx; exact .inl (.inr hx))).trans hM3 (by simp),_,⟨zb hb2 _ _,?_,?_,?_,?_⟩,?_⟩
 ·right
  rw [Array.getElem?_setIfInBounds_ne (by omega),Array.getElem?_setIfInBounds_self_of_lt (by omega)]
 ·rw [Array.getElem?_setIfInBounds_self_of_lt (by rw [Array.size_setIfInBounds]; omega)]
 ·have:=zl hown' hM3 (fun g' hg => by simp; rintro rfl; exact hne' hg)
  have e1:Lib.byteCells bs ++ [.int .u8 (c.toNat:Int)]=Lib.byteCells (bs ++ [c]):=by simp [Lib.byteCells]
  rw [e1] at this
  rw [List.length_append]
  exact this
 ·intro h0
  simp at h0
 ·intro g' hg
  obtain rfl:g=g':=by simpa [Value.ownBlock] using hg
  rcases hwhere with h1 | h1
  ·exact .inl h1
  ·exact .inr (by have:=hM1.size; omega)
end
open Go.RowKit
set_option linter.unusedVariables false
def TextSt (w:World) (rb bb:Nat) (acc:List UInt8) (wr:World):Prop:=
 Mods [] w wr ∧ wr.heap[rb]? = some (.cells (tokCells 0 0 ⟨#[]⟩ 0 0) 68 (0,0)) ∧ ∃ arr v,arr.size=2 ∧ Bld wr bb 0 152 arr v acc ∧ ∀ g,v.ownBlock=some g → w.heap.size ≤ g
theorem TextSt.wrote {w wr w':World} {rb bb:Nat} {acc acc':List UInt8} {arr:Array Value} {v:Value} (hrb:w.heap.size ≤ rb) (hbb:w.heap.size ≤ bb) (hne:rb ≠ bb) (hM:Mods [] w wr) (hr:wr.heap[rb]? = some (.cells (tokCells 0 0 ⟨#[]⟩ 0 0) 68 (0,0)))
  (ha:arr.size=2) (hB:Bld wr bb 0 152 arr v acc) (hv:∀ g,v.ownBlock=some g → w.heap.size ≤ g) (h:Wrote wr bb 0 152 arr v acc' w'):TextSt w rb bb acc' w':=by
 obtain ⟨h1,v',h2,h3⟩:=h
 have hvr:v.ownBlock ≠ some rb:=Lib.ownBlock_ne hB.own hr (by decide)
 refine ⟨hM.trans h1 (fun x hx => ?_),h1.heap hr ?_,_,v',?_,h2,fun g hg => ?_⟩
 ·simp only [List.mem_cons,Option.mem_toList] at hx
  rcases hx with rfl | hx
  ·exact .inr hbb
  ·exact .inr (hv x hx)
 ·simp only [List.mem_cons,Option.mem_toList]
  rintro (h | h)
  ·exact hne h
  ·exact hvr h
 ·simp [ha]
 ·rcases h3 g hg with h | h
  ·exact hv g h
  ·exact Nat.le_trans hM.size h
theorem zey (l:List UInt8):Lib.hasPrefix l [39]=decide (l.head? = some 39):=by
 cases l with
 | nil => rfl
 | cons c r =>
  simp [Lib.hasPrefix,List.isPrefixOf]
  rw [Bool.eq_iff_iff]; simp; constructor <;> intro h <;> exact h.symm
def TRel (l:List UInt8) (s:ByteArray) (at_ k:Nat) (acc:List UInt8):Prop:=textL (l.drop 1)=(textL (s.data.toList.drop k)).map (fun x => (acc ++ x.1,x.2 + (k - at_ - 1)))
theorem TRel.bad {l:List UInt8} {s:ByteArray} {at_ k:Nat} {acc:List UInt8} (h:TRel l s at_ k acc) (hn:textL (s.data.toList.drop k)=none):textT l=none:=by
 unfold TRel at h
 rw [hn] at h
 unfold textT
 rw [h]; rfl
theorem TRel.step {l:List UInt8} {s:ByteArray} {at_ k n:Nat} {acc:List UInt8} (h:TRel l s at_ k acc) (hat:at_ < k) (hn:k + n < s.size) (hq:(s.data.toList.drop k)[n]? = some 39) (ht:textL (s.data.toList.drop k)=(textL ((s.data.toList.drop k).drop n)).map (fun x => ((s.data.toList.drop k).take n ++ x.1,x.2 + n))) :
  if (s.data.toList.drop (k + n + 1)).head? = some 39 then TRel l s at_ (k + n + 2) (acc ++ (s.data.toList.drop k).take n ++ [39])
  else textT l=if 200 < (acc ++ (s.data.toList.drop k).take n).length then none else some (⟨4,acc ++ (s.data.toList.drop k).take n,0,0⟩,k + n + 1 - at_):=by
 have e1:(s.data.toList.drop k).drop n=39 :: s.data.toList.drop (k + n + 1):=by
  rw [List.getElem?_drop] at hq
  rw [List.drop_drop]
  obtain ⟨h1,h2⟩:=List.getElem?_eq_some_iff.1 hq
  rw [List.drop_eq_getElem_cons h1,h2]
 rw [e1] at ht
 unfold TRel at h
 rw [ht] at h
 cases hd:s.data.toList.drop (k + n + 1) with
 | nil =>
  rw [if_neg (by simp)]
  rw [hd] at h
  have e2:textL [39]=some ([],1):=by simp [textL]
  rw [e2] at h
  unfold textT
  rw [h]
  simp only [Option.map_some,List.append_nil]
  split
  ·rfl
  ·congr 2; omega
 | cons c r =>
  rw [hd] at h
  by_cases hc:c=39
  ·subst hc
   rw [List.head?_cons,if_pos rfl]
   have e3:s.data.toList.drop (k + n + 2)=r:=by
    rw [show k + n + 2=(k + n + 1) + 1 by omega,← List.drop_drop,hd]; rfl
   unfold TRel
   rw [e3,h,zgA]
   cases textL r with
   | none => rfl
   | some x =>
    simp only [Option.map_some,List.append_assoc,List.cons_append,List.nil_append]
    congr 2; omega
  ·rw [if_neg (by simp [hc])]
   rw [zgB c r hc] at h
   unfold textT
   rw [h]
   simp only [Option.map_some,List.append_nil]
   split
   ·rfl
   ·congr 2; omega
set_option maxRecDepth 100000 in
set_option maxHeartbeats 2000000 in
theorem zif (w:World) (b:Nat) (s:ByteArray) (hS:Scan w b s) (hs:s.size ≤ 4096) (at_:Nat) (hat:at_ < s.size) :
  Calls Tryz.prog 74 #[.pointer (some ⟨b,0,none⟩),.int .i64 at_] w (TokPost w (textT (s.data.toList.drop at_)) at_):=by
 obtain ⟨l,hl⟩ : ∃ l,s.data.toList.drop at_=l:=⟨_,rfl⟩
 have hst:TRel l s at_ (at_ + 1) []:=by
  unfold TRel
  rw [← hl,List.drop_drop,show at_ + 1 - at_ - 1=0 by omega]
  cases textL (s.data.toList.drop (at_ + 1)) <;> simp
 rw [hl]
 have hM0:=((Mods.refl [] w).alloc (.cells (tokCells 0 0 ⟨#[]⟩ 0 0) 68)).alloc (.cells #[.pointer none,.slice none 0 0] 152)
 have hr0:=((Mods.refl [] (w.alloc (.cells (tokCells 0 0 ⟨#[]⟩ 0 0) 68))).alloc (.cells #[.pointer none,.slice none 0 0] 152)).heap (heap_alloc_new w (.cells (tokCells 0 0 ⟨#[]⟩ 0 0) 68)) (by simp)
 have hb0:=heap_alloc_new (w.alloc (.cells (tokCells 0 0 ⟨#[]⟩ 0 0) 68)) (.cells #[.pointer none,.slice none 0 0] 152)
 rw [zk] at hb0
 have hSt:TextSt w w.heap.size (w.heap.size + 1) [] ((w.alloc (.cells (tokCells 0 0 ⟨#[]⟩ 0 0) 68)).alloc (.cells #[.pointer none,.slice none 0 0] 152)):=
  ⟨hM0,hr0,_,.slice none 0 0,rfl,⟨hb0,.inl rfl,rfl,World.ownsRow_nil _ _ _ _,fun _ => rfl⟩,fun g hg => by cases hg⟩
 have HL:=Lib.hid hl
 clear hM0 hr0 hb0 hl
 go_enter Tryz.func74, Tryz.ntmps74
 go_wp2_with fail
 generalize (w.alloc (.cells (tokCells 0 0 ⟨#[]⟩ 0 0) 68)).alloc (.cells #[.pointer none,.slice none 0 0] 152)=w0 at *
 have HSt:=Lib.hid hSt
 have HTR:=Lib.hid hst
 clear hSt hst
 go_loopw [7] (fun t7 wr => ∃ (k:Nat) (acc:List UInt8),at_ < k ∧ k ≤ s.size ∧ t7 = .int .i64 k ∧ acc.length ≤ k ∧ Hid (TextSt w w.heap.size (w.heap.size + 1) acc wr) ∧ Hid (TRel l s at_ k acc)) (fun t7 _ => s.size + 1 - (intOf t7).toNat)
 case atStart => exact ⟨at_ + 1,[],by omega,by omega,by go_num,by simp,HSt,HTR⟩
 case round =>
  clear HSt HTR
  obtain ⟨k,acc,hk,hks,rfl,hacc,HSt,HTR⟩:=hrel
  obtain ⟨hM,hr,arr,v,ha,hB,hv⟩:=HSt.out
  have hSr:=hS.mods hM
  have c0:=hSr.text
  have hib:=fun w => (Tryz.strings_IndexByte (s.extract k s.size) 39 w).mono (fun e w' h => (⟨h.1,h.2.symm⟩ : _ ∧ w=w'))
  rw [zew,show ((39:Int).toNat.toUInt8)=(39:UInt8) from rfl] at hib
  have hinfo:=zb1
  have hrbw:w.heap.size ≤ w.heap.size:=Nat.le_refl _
  rcases zeu (s.data.toList.drop k) with ⟨h1,h2⟩ | ⟨n,h1,h2,h3,h4⟩
  ·have HE:=Lib.hid (HTR.out.bad h2)
   rw [h1] at hib
   clear h1 h2 hB hv
   go_wp2_with fail
   (with_reducible refine (hib _).mono ?_)
   rintro e w2 ⟨rfl,rfl⟩
   clear hib
   go_wp2_with (refine wpList_store_row rfl 68 (.tmp 4) (.tmp 20) rfl w.heap.size (tokCells 0 0 ⟨#[]⟩ 0 0) rfl rfl 68 _ hr hinfo rfl (zP _ _ _ _ _) ?_)
   refine bodyPost_ret (zg rfl _ _ w.heap.size 68 (tokCells 0 0 ⟨#[]⟩ 0 0) (0,0) _ rfl (zh _ hr) Tryz.underlying68 rfl hinfo _ rfl) rfl ?_
   rw [HE.out]
   exact ⟨rfl,hM.setRow (.inr (Nat.le_refl _)) _⟩
  ·have hdl:(s.data.toList.drop k).length=s.size - k:=by rw [List.length_drop]; rfl
   have hkn:k + n < s.size:=by omega
   have hstep:=HTR.out.step hk hkn h3 h4
   have hpl:(s.extract k (k + n)).data.toList=(s.data.toList.drop k).take n:=zaF s k n
   have hps:(s.extract k (k + n)).size=n:=by
    have e1:(s.extract k (k + n)).size=(s.extract k (k + n)).data.toList.length:=rfl
    rw [e1,hpl,List.length_take]; omega
   have hws:=zci zff ha hB (s.extract k (k + n)) (by rw [hps]; omega)
   have hwr:=fun w' h => TextSt.wrote (acc':=acc ++ (s.extract k (k + n)).data.toList) (w':=w') hrbw (Nat.le_succ _) (by omega) hM hr ha hB hv h
   rw [hpl] at hwr hws
   rw [h1] at hib
   have hkz:(k:Int) + ((n:Int) + 1) ≤ (s.size:Int):=by omega
   have hlenacc:(acc ++ (s.data.toList.drop k).take n).length ≤ k + n:=by rw [List.length_append,List.length_take]; omega
   have HP:=Lib.hid hpl
   have HSTEP:=Lib.hid hstep
   have HLEN:=Lib.hid hlenacc
   generalize hacc':acc ++ (s.data.toList.drop k).take n=acc' at *
   have hpre:=fun w => (Tryz.strings_HasPrefix (s.extract (k + (n + 1)) s.size) ⟨#[39]⟩ w).mono (fun e w' h => (⟨h.1,h.2.symm⟩ : _ ∧ w=w'))
   have hpe:Lib.hasPrefix (s.extract (k + (n + 1)) s.size).data.toList (⟨#[39]⟩ : ByteArray).data.toList=decide ((s.data.toList.drop (k + n + 1)).head? = some 39):=by rw [zew]; exact zey _
   rw [hpe] at hpre
   obtain ⟨PF,hPF⟩ : ∃ PF,decide ((s.data.toList.drop (k + n + 1)).head? = some 39)=PF:=⟨_,rfl⟩
   rw [hPF] at hpre
   have HPF:=Lib.hid hPF
   clear h1 h2 h3 h4 hpl hps hstep hB hv hdl hlenacc hacc' hpe hPF
   go_wp2_with fail
   (with_reducible refine (hib _).mono ?_)
   rintro e w2 ⟨rfl,rfl⟩
   clear hib
   go_wp2_with fail
   refine hws.mono ?_
   rintro e w3 ⟨rfl,hW⟩
   have HSt3:=hwr w3 hW
   clear hws hwr hW hr hM
   obtain ⟨hM,hr,arr3,v3,ha3,hB3,hv3⟩:=id HSt3
   have hS3:=hS.mods hM
   have c3:=hS3.text
   clear c0
   go_wp2_with fail
   (with_reducible refine (hpre _).mono ?_)
   rintro e w4 ⟨rfl,rfl⟩
   clear hpre
   cases PF with
   | false =>
    have hT:=HSTEP.out
    rw [if_neg (of_decide_eq_false HPF.out)] at hT
    have hlen:=zi9 hB3
    obtain ⟨L,hL⟩ : ∃ L,acc'.length=L:=⟨_,rfl⟩
    rw [hL] at hlen hT
    have hLk:L ≤ s.size:=by rw [← hL]; have:=HLEN.out; omega
    by_cases h200:200 < L
    ·have h200z:(200:Int) < (L:Int):=by omega
     rw [if_pos h200] at hT
     have HE:=Lib.hid hT
     clear hT hL hB3 hv3 ha3
     go_wp2_with fail
     (with_reducible refine hlen.mono ?_)
     rintro e w5 ⟨rfl,h5⟩
     subst h5
     clear hlen
     go_wp2_with (refine wpList_store_row rfl 68 (.tmp 4) (.tmp 45) rfl w.heap.size (tokCells 0 0 ⟨#[]⟩ 0 0) rfl rfl 68 _ hr hinfo rfl (zP _ _ _ _ _) ?_)
     refine bodyPost_ret (zg rfl _ _ w.heap.size 68 (tokCells 0 0 ⟨#[]⟩ 0 0) (0,0) _ rfl (zh _ hr) Tryz.underlying68 rfl hinfo _ rfl) rfl ?_
     rw [HE.out]
     exact ⟨rfl,hM.setRow (.inr (Nat.le_refl _)) _⟩
    ·have h200z:¬ (200:Int) < (L:Int):=by omega
     rw [if_neg h200] at hT
     have HE:=Lib.hid hT
     have hstr:=zfP hB3
     have hv3r:v3.ownBlock ≠ some w.heap.size:=Lib.ownBlock_ne hB3.own hr (by decide)
     have hmv:∀ x ∈ v3.ownBlock.toList,x ∈ [] ∨ w.heap.size ≤ x:=fun x hx => .inr (hv3 x (by simpa using hx))
     have HMV:=Lib.hid (And.intro hmv hv3r)
     clear hT hL hB3 hv3 ha3 hv3r hmv
     go_wp2_with fail
     (with_reducible refine hlen.mono ?_)
     rintro e w5 ⟨rfl,h5⟩
     subst h5
     clear hlen
     go_wp2_with fail
     (with_reducible refine hstr.mono ?_)
     rintro e w6 ⟨rfl,hM6⟩
     have hr6:=hM6.heap hr (by simpa using HMV.out.2)
     have hM7:=hM.trans hM6 HMV.out.1
     clear hstr hM6 hr
     go_wp2_with (refine wpList_store_row rfl 68 (.tmp 4) (.tmp 48) rfl w.heap.size (tokCells 4 at_ ⟨acc'.toArray⟩ 0 0) rfl rfl 68 _ hr6 hinfo rfl (zP _ _ _ _ _) ?_)
     refine bodyPost_ret (zg rfl _ _ w.heap.size 68 (tokCells 4 at_ ⟨acc'.toArray⟩ 0 0) (0,0) _ rfl (zh _ hr6) Tryz.underlying68 rfl hinfo _ rfl) rfl ?_
     rw [HE.out]
     refine ⟨?_,hM7.setRow (.inr (Nat.le_refl _)) _⟩
     show Ending.returned (.tuple #[_,.int .i64 _])=Ending.returned (.tuple #[_,.int .i64 ((k + n + 1 - at_:Nat):Int)])
     rw [show ((k + n + 1 - at_:Nat):Int)=(k:Int) + ((n:Int) + 1) - (at_:Int) by omega]
     rfl
   | true =>
    have hT:=HSTEP.out
    rw [if_pos (of_decide_eq_true HPF.out)] at hT
    have hwb:=zdo zff ha3 hB3 39 (by have:=HLEN.out; omega)
    change Calls _ _ #[.pointer _,.int .u8 39] _ _ at hwb
    have hwr:=fun w' h => TextSt.wrote (acc':=acc' ++ [39]) (w':=w') hrbw (Nat.le_succ _) (by omega) hM hr ha3 hB3 hv3 h
    have hdl2:k + n + 2 ≤ s.size:=by
     have:=of_decide_eq_true HPF.out
     have e2:(s.data.toList.drop (k + n + 1)) ≠ []:=by intro h; rw [h] at this; simp at this
     have e3:=List.length_pos_iff.2 e2
     rw [List.length_drop] at e3
     have e4:s.data.toList.length=s.size:=rfl
     omega
    have HTR2:=Lib.hid hT
    clear hT hB3 hv3 ha3 hM hr
    go_wp2_with fail
    (with_reducible refine hwb.mono ?_)
    rintro e w5 ⟨rfl,hW⟩
    have HSt5:=hwr w5 hW
    have HST5:=Lib.hid HSt5
    clear hwb hwr hW HSt5
    go_wp2_with fail
    go_roundw
    case measure => simp [intOf]; omega
    case rel => exact ⟨k + n + 2,acc' ++ [39],by omega,by omega,by go_num,by rw [List.length_append]; have:=HLEN.out; simp; omega,HST5,HTR2⟩
end Go.Proofs.YtgdpaieechgahaaGreatDoor
