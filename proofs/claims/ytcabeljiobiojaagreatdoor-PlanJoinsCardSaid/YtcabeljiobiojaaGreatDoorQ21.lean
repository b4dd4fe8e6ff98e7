/-
  Two more rules of check.typed, walked: of two Bools; of two numbers. No condition but that Go's own variables hold what they were laid with.
-/
import Derived.Test.YtcabeljiobiojaaGreatDoorMix
import Derived.Test.YtcabeljiobiojaaGreatDoorQ16
import Derived.StillTailTactics
import Derived.Deep.MidRow
set_option linter.unusedVariables false
set_option maxRecDepth 100000
set_option maxHeartbeats 4000000
namespace Go.Proofs.YtcabeljiobiojaaGreatDoor
open Go.RowKit
theorem yea {p:Prop} (h:p:=by
  intro bb;obtain ⟨F1,F2,F3,F4,F5,F6,K⟩:=HH.out;have F1:=F1 bb;have F2:=F2 bb;have F3:=F3 bb;have F4:=F4 bb;have F5:=F5 bb
  first
  |guard_hyp gCO
   have F6:∀ k:zay (zdL (w.alloc (.cells #[.int .i64 0,.int .i64 0] 59)) w.heap.size #[.int .i64 t.k,.int .i64 t.s] bb),k.val.cell? ⟨ob,0,none⟩ = some (.string ⟨#[43]⟩):=F6 bb;exact yaY
  |guard_hyp gCP
   have F6:∀ k:zay (zdL (w.alloc (.cells #[.int .i64 0,.int .i64 0] 59)) w.heap.size #[.int .i64 t.k,.int .i64 t.s] bb),k.val.cell? ⟨ob,0,none⟩ = some (.string ⟨#[45]⟩):=F6 bb;exact yaY
  |guard_hyp gCQ
   have F6:∀ k:zay (zdL (w.alloc (.cells #[.int .i64 0,.int .i64 0] 59)) w.heap.size #[.int .i64 t.k,.int .i64 t.s] bb),k.val.cell? ⟨ob,0,none⟩ = some (.string ⟨#[42]⟩):=F6 bb;exact yaY
  |guard_hyp gCR
   have F6:∀ k:zay (zdL (w.alloc (.cells #[.int .i64 0,.int .i64 0] 59)) w.heap.size #[.int .i64 t.k,.int .i64 t.s] bb),k.val.cell? ⟨ob,0,none⟩ = some (.string ⟨#[47]⟩):=F6 bb;exact yaY
 ):p:=h
theorem yfa {p:Prop} (h:p:=by
  go_enter Tryz.func139, Tryz.ntmps139;go_upto_region 1 with fail;apply zz AC 11 _ rfl 59 (.tmp 2) (.tmp 13) rfl rfl rfl AC AC w.heap.size #[.int .i64 t.k,.int .i64 t.s] _ _ hr zk rfl (zA t.k t.s)
  first
  |guard_hyp gEX
   case hwalk =>have gCO:=QH trivial;exact yea
   case hxa => rfl
   case hya => rfl
   case hend =>exact yeZ
  |guard_hyp gEY
   case hwalk =>have gCP:=QH trivial;exact yea
   case hxa => rfl
   case hya => rfl
   case hend =>exact yeZ
  |guard_hyp gEZ
   case hwalk =>have gCQ:=QH trivial;exact yea
   case hxa => rfl
   case hya => rfl
   case hend =>exact yeZ
  |guard_hyp gE0
   case hwalk =>have gCR:=QH trivial;exact yea
   case hxa => rfl
   case hya => rfl
   case hend =>exact yeZ
 ):p:=h
theorem ycA {p:Prop} (h:p:=by
  rcases cb with ⟨b1,b2,b3⟩ | ⟨b1,b2,b3⟩ | ⟨b1,b3⟩
  ·rw [decide_eq_false a3,decide_eq_true b3];exact yad
  ·rw [decide_eq_false a3,decide_eq_false b3];exact yad
  ·rw [decide_eq_false a3,decide_eq_false b3];exact yad
 ):p:=h
theorem yad {p:Prop} (h:p:=by
  clear a3 b3;go_enter Tryz.func138, Tryz.ntmps138;go_upto_region 1 with fail;apply zz AC 13 _ rfl 59 (.tmp 1) (.tmp 3) rfl rfl rfl AC AC w.heap.size #[.int .i64 4,.int .i64 0] _ _ hr zk rfl (zA 4 0)
  case hwalk =>intro bb;obtain ⟨F1,F2,F3,F4,F5,G0,G1⟩:=HH.out;have F1:=F1 bb;have F2:=F2 bb;have F3:=F3 bb;have F4:=F4 bb;have F5:=F5 bb;have G0:=G0 bb;have G1:=G1 bb;dsimp only [nop,List.set];(repeat go_big_quiet_step (fail));refine QW ?_;exact rfl
  case hxa => rfl
  case hya => rfl
  case hend =>intro wz hMz;have hr4:=hMz.heap (zi (w:=(w.alloc (.cells #[.int .i64 0,.int .i64 0] 59)).drew) #[.int .i64 4,.int .i64 0] hr) AB;have hfin:Mods [] w wz:=((HZ.out.drew).setRow (g:=w.heap.size) (.inr (LR _)) #[.int .i64 4,.int .i64 0]).trans hMz;clear hMz HZ HH hr;generalize w.heap.size=gb at *;go_wp2_with fail;refine bodyPost_ret (zg rfl _ _ gb 59 #[.int .i64 4,.int .i64 0] (0,0) _ rfl hr4 Tryz.underlying59 rfl zk _ rfl) rfl ?_;exact ⟨rfl,hfin⟩
 ):p:=h
theorem yeZ {p:Prop} (h:p:=by
  intro wz hMz;have hr4:=hMz.heap (zi (w:=(w.alloc (.cells #[.int .i64 0,.int .i64 0] 59)).drew) #[.int .i64 t.k,.int .i64 t.s] hr) AB;have hfin:Mods [] w wz:=((HZ.out.drew).setRow (g:=w.heap.size) (.inr (LR _)) #[.int .i64 t.k,.int .i64 t.s]).trans hMz;clear hMz HZ HH hr;generalize w.heap.size=gb at *;go_wp2_with fail;refine bodyPost_ret (zg rfl _ _ gb 59 #[.int .i64 t.k,.int .i64 t.s] (0,0) _ rfl hr4 Tryz.underlying59 rfl zk _ rfl) rfl ?_;exact HFIN.out wz hfin
 ):p:=h
theorem yaY {p:Prop} (h:p:=by
  have HK:=QH (K bb);clear K;dsimp only [nop,List.set];(repeat go_big_quiet_step (exact HK.out _));refine QW ?_;exact rfl
 ):p:=h
theorem zbk {w:World} {o:Obj} {cells:Array Value} {p:Addr} {v:Value} (hv:w.cell? p=some v) (b:Bool) (k:zay (zdL (w.alloc o) w.heap.size cells b)):k.val.cell? p=some v:=by
 have hlt:=zD hv;have h1:Mods [w.heap.size] w (zdL (w.alloc o) w.heap.size cells b):=by
  unfold zdL;split
  ·exact (((QM _ w).alloc o).drew).setRow (.inl AB) _
  ·exact ((QM _ w).alloc o).drew
 exact k.mods.cell (h1.cell hv AE)
theorem ziV (w:World) (hV:CkVars w) (tb:Nat) (a b:Ty) (h:TwoT w tb a b):Calls Tryz.prog 138 #[zh tb] w fun e w' => e = .returned (.tuple #[tyA tyBool,.bool (decide (a=tyBool) && decide (b=tyBool))]) ∧ Mods [] w w':=by have gE4:=QH trivial;exact yfb
def RuleRes (o:Option Ty) (w:World) (e:Ending) (w':World):Prop:=(∃ t:Ty,e = .returned (.tuple #[tyA t,.bool o.isSome]) ∧ ∀ u,o=some u → t=u) ∧ Mods [] w w'
def arithV (o:Option Ty):Value:=match o with | none => .tuple #[tyA tyNone,.bool false] | some t => .tuple #[tyA t,.bool true]
theorem zia (o:Option Ty):∃ t:Ty,arithV o = .tuple #[tyA t,.bool o.isSome] ∧ ∀ u,o=some u → t=u:=by
 cases o with
 | none => exact ⟨tyNone,rfl,fun u h => by cases h⟩
 | some t => exact ⟨t,rfl,fun u h => by cases h; rfl⟩
theorem zcQ (w:World) (ob tb op:Nat) (hop:op=43 ∨ op=45 ∨ op=42 ∨ op=47) (hob:w.cell? ⟨ob,0,none⟩ = some (.string ⟨#[UInt8.ofNat op]⟩)) (a b:Ty) (ha:a.Right) (hb:b.Right) (h:TwoT w tb a b) :
  Calls Tryz.prog 139 #[zh ob,zh tb] w (RuleRes (zb7 (UInt8.ofNat op) a b) w):=by
 have gE5:=QH trivial;exact yfb
def tRow (ts:List Ty) (i:Nat):Array Value:=
 #[.int .i64 (if 0 < i then (ts.getD 0 tyNone).k else 0:Nat),.int .i64 (if 0 < i then (ts.getD 0 tyNone).s else 0:Nat),.int .i64 (if 1 < i then (ts.getD 1 tyNone).k else 0:Nat),.int .i64 (if 1 < i then (ts.getD 1 tyNone).s else 0:Nat)]
theorem zs {P:Program} (T kt et:TypeId) (d:TypeDesc) (hT:P.underlying T=some (.map kt et)) (hk:P.underlying kt=some d) {w:World} {mb:Nat} {es:Array MapEntry} {clock:Nat} (hb:w.heap[mb]? = some (.map es clock)) (k:Value) (z:Value)
  (hz:∀ w,(zeroValue et).run P w = .ok z w) (hkey:MapKept.IsKey d k) (r:Option (Nat × Value)) (hf:Instr.findNow d k es.toList 0=some r) :
  (Instr.lookup T (.map (some mb)) k true).run P w = .ok (.tuple #[(r.map (·.2)).getD z,.bool r.isSome]) w:=by
 exact ycL
theorem RuleRes.of {o:Option Ty} {w:World} {t:Ty} {b:Bool} {e:Ending} {w':World} (hb:o.isSome=b) (ho:∀ u,o=some u → t=u) (h:e = .returned (.tuple #[tyA t,.bool b]) ∧ Mods [] w w'):RuleRes o w e w':=
 ⟨⟨t,by rw [hb]; exact h.1,ho⟩,h.2⟩
theorem zaz {p:Prop} [Decidable p] {t:Ty}:(if p then some t else none).isSome=decide p:=by by_cases h:p <;> simp [h]
theorem zej {p:Prop} [Decidable p] {t:Ty}:∀ u,(if p then some t else none)=some u → t=u:=by intro u h; by_cases hp:p <;> simp [hp] at h; exact h
theorem zcn {w:World} {g:Nat} {cells:Array Value} {p:Addr} {v:Value} (hv:w.cell? p=some v) (hne:p.block ≠ g) (b:Bool) (k:zay (zdL w g cells b)):k.val.cell? p=some v:=by
 have h1:Mods [g] w (zdL w g cells b):=by
  unfold zdL;split
  ·exact ((QM _ w).drew).setRow (.inl AB) _
  ·exact (QM _ w).drew
 exact k.mods.cell (h1.cell hv AS)
def zaH (l:Bs):Value:=.string ⟨l.toArray⟩
def zO (ob tb:Nat):List MapEntry:=[⟨zaH oAll,.func (.func 132) #[] #[],0⟩,⟨zaH oNeg,.func (.func 133) #[] #[zh tb],1⟩,⟨zaH oMin,.func (.func 135) #[] #[zh tb],2⟩,⟨zaH oIs,.func (.func 136) #[] #[],3⟩,⟨zaH oNot,.func (.func 137) #[] #[zh tb],4⟩,⟨zaH oAnd,.func (.func 138) #[] #[zh tb],5⟩,⟨zaH oPlus,.func (.func 139) #[] #[zh ob,zh tb],6⟩]
def sameE:List MapEntry:=[⟨zaH oCount,zaH oAll,0⟩,⟨zaH oSum,zaH oNeg,1⟩,⟨zaH oMax,zaH oMin,2⟩,⟨zaH oIsNot,zaH oIs,3⟩,⟨zaH oOr,zaH oAnd,4⟩,⟨zaH oMinus,zaH oPlus,5⟩,⟨zaH oTimes,zaH oPlus,6⟩,⟨zaH oOver,zaH oPlus,7⟩]
theorem zew {ts:List Ty} {n:Nat} (h:ts.length=n) (hn:n ≤ 2):tRow ts n = #[.int .i64 (ts.getD 0 tyNone).k,.int .i64 (ts.getD 0 tyNone).s,.int .i64 (ts.getD 1 tyNone).k,.int .i64 (ts.getD 1 tyNone).s]:=by
 have h3:n=0 ∨ n=1 ∨ n=2:=by omega
 rcases h3 with rfl | rfl | rfl
 ·obtain rfl:=List.length_eq_zero_iff.1 h; rfl
 ·obtain ⟨a,rfl⟩:=List.length_eq_one_iff.1 h; rfl
 ·match ts,h with
  | [a,b],_ => rfl
theorem zk8 (ob tb:Nat) {op:Bs} (h:op ∈ rels):Instr.findNow .string (.string ⟨op.toArray⟩) sameE.toArray.toList 0=some none ∧ Instr.findNow .string (.string ⟨op.toArray⟩) (zO ob tb).toArray.toList 0=some none:=by simp only [rels,List.mem_cons,List.not_mem_nil,or_false] at h;rcases h with rfl | rfl | rfl | rfl | rfl | rfl <;> exact ⟨rfl,rfl⟩
theorem zjL (a b:Ty) {op:Bs} (h:op ∈ rels):zx op a b=if a=b ∨ (a.num=true ∧ b.num=true) then some tyBool else none:=by simp only [rels,List.mem_cons,List.not_mem_nil,or_false] at h;rcases h with rfl | rfl | rfl | rfl | rfl | rfl <;> rfl
theorem zgL (w:World):(Instr.makeSlice 249 (.int .i64 2) (.int .i64 2)).run Tryz.prog w = .ok (.slice (some ⟨w.heap.size,0,none⟩) 2 2) (w.alloc (.cells #[.int .i64 0,.int .i64 0,.int .i64 0,.int .i64 0] 59)):=by kernel_rfl
end Go.Proofs.YtcabeljiobiojaaGreatDoor
