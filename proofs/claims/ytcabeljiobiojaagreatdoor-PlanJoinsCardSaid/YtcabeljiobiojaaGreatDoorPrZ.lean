/-
  An argument that is a slice of the law's cells: its cells and their readings. Plain facts; no condition.
-/
import Derived.Test.YtcabeljiobiojaaGreatDoorQ35
set_option linter.unusedVariables false
namespace Go.Proofs.YtcabeljiobiojaaGreatDoor
open Go.ChangeShapes Go.WideShapes Go.ChangeAt Go.RowKit Go.Deep
theorem zq4:∃ fs:Array Field,Tryz.prog.underlying 63 = some (.struct fs) ∧ oneCellFields Tryz.prog fs=true ∧ fs.size=3 ∧ fs.map (·.type) = #[2, 9, 4]:=
 ⟨_,Tryz.underlying63, by kernel_rfl,by kernel_rfl,by kernel_rfl⟩
set_option maxRecDepth 100000 in
theorem zq5 {H:Type} {enc:TypeId × Value → H} {W:World} {v:Value} {d:DataW H} {p:List MemPlace} (hval:Value.okWide Tryz.prog W .any 0 22 v) (h:DataW.Trod enc Tryz.prog W 0 (fun _ => true) true 22 v d p) :
  ∃ (ao:Option Addr) (len cap:Nat) (C:Nat → Int × ByteArray × Bool),v = .slice ao len cap ∧ (len ≤ 9223372036854775807 ∧ len ≤ cap ∧ (ao=none → len=0)) ∧ CellsIn W ao len C:=by
 have hC : Tryz.prog.cellsOf 63 = 3:=by kernel_rfl
 obtain ⟨fs,hs,h1,h6,hty⟩:=zq4;obtain ⟨ao,len,cap,hv,hl,hel⟩:=zhJ Tryz.underlying22 (Nat.lt_of_lt_of_eq (by decide:0 < 3) hC.symm) hval h;by_cases h0:0 < len
 ·obtain ⟨b,off,rfl,hi⟩:=hel h0;rw [hC] at hi
  obtain ⟨C,hX⟩:=choose_lt (α:=Int × ByteArray × Bool) (p:=fun i z => (W.cell? ⟨b,off + i * 3,none⟩ = some (.int .i64 z.1) ∧ W.cell? ⟨b,off + i * 3 + 1,none⟩ = some (.string z.2.1) ∧ W.cell? ⟨b,off + i * 3 + 2,none⟩ = some (.bool z.2.2)) ∧ (-9223372036854775808 ≤ z.1 ∧ z.1 ≤ 9223372036854775807) ∧ z.2.1.size ≤ 9223372036854775807) (n:=len) (fun i hil => by
   obtain ⟨cs,n,x,hcl,hcells,ht⟩:=hi i hil;have fld:∀ (j:Nat) (t:TypeId),(#[2, 9, 4]:Array TypeId)[j]? = some t → ∃ (v:Value) (m:Nat) (y:DataW H × List MemPlace),cs[j]? = some v ∧ DataW.trod enc Tryz.prog W 0 (fun _ => true) true m t [v]=some y:=by intro j t hj;rw [← hty,Array.getElem?_map] at hj;obtain ⟨f,hf,rfl⟩:=Option.map_eq_some_iff.1 hj;exact zhI hs h1 (hC.trans h6.symm) ht hf
   obtain ⟨v0,m0,y0,c0,t0⟩:=fld 0 _ rfl;obtain ⟨v1,m1,y1,c1,t1⟩:=fld 1 _ rfl;obtain ⟨v2,m2,y2,c2,t2⟩:=fld 2 _ rfl;obtain ⟨S,rfl,hS⟩:=zq6 Tryz.underlying2 t0;obtain ⟨s,rfl,hs5⟩:=ziD Tryz.underlying9 t1;obtain ⟨F,rfl⟩:=zqv Tryz.underlying4 t2;refine ⟨(S,s,F),⟨?_,?_,?_⟩,hS,hs5⟩
   ·have:=hcells 0 AA; rw [Nat.add_zero] at this; exact this.trans c0
   ·exact (hcells 1 AA).trans c1
   ·exact (hcells 2 AA).trans c2)
  exact ⟨_,len,cap,C,hv,hl,fun _ => ⟨b,off,rfl,hX⟩⟩
 ·exact ⟨ao,len,cap,fun _ => (0,⟨#[]⟩,false),hv,hl,fun h => absurd h h0⟩
end Go.Proofs.YtcabeljiobiojaaGreatDoor
