/-
  parse's brackets and its inner function, walked. No condition.
-/
import Derived.Test.YtgdpaieechgahaaGreatDoorQ09
import Derived.Deep.RegionHeld3
namespace Go.Proofs.YtgdpaieechgahaaGreatDoor
open Go.RowKit
set_option linter.unusedVariables false
def Held (xc:Nat) (F:PF) (s1:PS) (W W':World):Prop:=
 ∃ yb,W'.heap[xc]? = some (.cells #[PtrV yb] 82 (0,0)) ∧ (((F s1).2.wants [wShut]).e=0 → ∀ L:List Nat,(∀ z ∈ L,z < W.heap.size) → ExprAt 133 82 W' L (PtrV yb) (F s1).1)
theorem zco {s:PS} {l:List Bs} (h:(s.wants l).e=0):s.e=0:=Classical.byContradiction fun hn => by rw [(Aft.wants l s).err hn] at h; exact hn h
set_option maxRecDepth 100000 in
set_option maxHeartbeats 1000000 in
theorem brackets1 (W:World) (pb tg:Nat) (f:Nat) (F:PF) (s1:PS) (xp xc:Nat) (u:Value)
  (hx:W.cell? ⟨xp,0,none⟩ = some (PtrV pb)) (hc:W.heap[xc]? = some (.cells #[u] 82 (0,0))) (n1:xp ≠ pb) (n2:xc ≠ pb) (n3:xc ≠ tg) (n4:xp ≠ xc)
  (hpw:pb < W.heap.size) (hexpr:Calls Tryz.prog 45 #[PtrV pb] W (PRes pb tg f F s1 W)) :
  Calls Tryz.prog 187 #[.pointer (some ⟨xp,0,none⟩),.pointer (some ⟨xc,0,none⟩)] W fun e W' => e = .returned (.tuple #[]) ∧ PSt W' pb tg ((F s1).2.wants [wShut]) f ∧ Mods [pb,xc] W W' ∧ Held xc F s1 W W':=by
 have hxw:xc < W.heap.size:=zi hc
 unfold PtrV at *
 go_enter Tryz.func187, Tryz.ntmps187
 go_wp2_with fail
 (with_reducible refine hexpr.mono ?_)
 rintro e w5 ⟨yb,rfl,hM5,hP5,hE5⟩
 dsimp only [PtrV]
 clear hexpr
 have hc5:=hM5.heap hc (by simpa using n2)
 have c5:w5.cell? ⟨xc,0,none⟩ = some u:=za hc5 0
 have g5:=zd hc5 0
 have hM6:Mods [xc] w5 (w5.setCell ⟨xc,0,none⟩ (.pointer (some ⟨yb,0,none⟩))):=(Mods.refl _ _).setCell (.inl (by simp)) _
 have hc6:=zb hc5 0 (.pointer (some ⟨yb,0,none⟩))
 have hx6:=hM6.cell (hM5.cell hx (by simpa using n1)) (by simpa using n4)
 have hP6:=hP5.mods hM6 (by simpa using n2.symm) (by simpa using n3.symm)
 have hpl:=hP6.lt
 have H56:=Lib.hid (And.intro hM5 hM6)
 have H6:=Lib.hid (And.intro hP6 hc6)
 clear hP5 hP6 hc6 hM5 hM6
 go_upto_region 1 with fail
 generalize w5.setCell ⟨xc,0,none⟩ (.pointer (some ⟨yb,0,none⟩))=w6 at *
 have hMs:=(Mods.refl [] w6).alloc (.cells #[.string ⟨#[41]⟩] 9)
 have hwa:Calls Tryz.prog 39 #[PtrV pb,.slice (some ⟨w6.heap.size,0,none⟩) 1 1] (w6.alloc (.cells #[.string ⟨#[41]⟩] 9)) _:=zan _ pb tg _ f (H6.out.1.later hMs) _ [wShut] (zaa w6 wShut 9) (by decide) (fun g off n c he => by simp only [Value.slice.injEq,Option.some.injEq,Addr.mk.injEq] at he; omega)
 unfold PtrV at hwa
 go_wp2_with fail
 (with_reducible refine hwa.mono ?_)
 rintro e w9 ⟨rfl,hM9,hP9⟩
 clear hwa
 go_wp2_with fail
 go_end0
 obtain ⟨hM5,hM6⟩:=H56.out
 have h69:Mods [pb] w6 w9:=(hMs.mono (L':=[pb]) (by simp)).trans hM9 (by simp)
 have hs5:=hM5.size
 refine ⟨rfl,hP9,((hM5.mono (L':=[pb,xc]) (by simp)).trans (hM6.mono (L':=[pb,xc]) (by simp)) (by simp)).trans (h69.mono (L':=[pb,xc]) (by simp)) (by simp),yb,h69.heap H6.out.2 (by simpa using n2),fun he L hL => ?_⟩
 exact (((hE5 (zco he) (pb :: xc :: L) fun z hm => by
  rcases List.mem_cons.1 hm with rfl | hm
  ·exact hpw
  ·rcases List.mem_cons.1 hm with rfl | hm
   ·exact hxw
   ·exact hL _ hm).mods (hM6.mono (by simp))).mods (h69.mono (by simp))).weaken (fun z hm => List.mem_cons_of_mem _ (List.mem_cons_of_mem _ hm))
set_option maxRecDepth 100000 in
set_option maxHeartbeats 2000000 in
theorem zea (w:World) (pb tg:Nat) (f:Nat) (s:PS) (h:PSt w pb tg s f) (he:s.e=0) (hk:s.now.kind ≠ 0)
  (hexpr:∀ f',f=f' + 1 → ∀ W s1,PSt W pb tg s1 f' → Calls Tryz.prog 45 #[PtrV pb] W (PRes pb tg f' (lvl f').expr s1 W)) :
  Calls Tryz.prog 184 #[PtrV pb] w (PRes pb tg f (bracketsF (subOf f)) s w):=by
 have hpw:=h.lt
 have hMX:=(((Mods.refl [] w).alloc (.cells #[.pointer (some ⟨pb,0,none⟩)] 69)).alloc (.cells #[.string ⟨#[]⟩,.int .i64 0,.string ⟨#[]⟩,.string ⟨#[]⟩,.int .i64 0,.int .i64 0,.string ⟨#[]⟩,.slice none 0 0] 133)).alloc (.cells #[.pointer (some ⟨w.heap.size + 1,0,none⟩)] 82)
 obtain ⟨hp0,hx0,hc0⟩:=zgU w (.cells #[.pointer (some ⟨pb,0,none⟩)] 69) (.cells #[.string ⟨#[]⟩,.int .i64 0,.string ⟨#[]⟩,.string ⟨#[]⟩,.int .i64 0,.int .i64 0,.string ⟨#[]⟩,.slice none 0 0] 133) (.cells #[.pointer (some ⟨w.heap.size + 1,0,none⟩)] 82)
 have hP0:=h.later hMX
 have HO:=Lib.hid hexpr
 unfold PtrV at *
 clear h hexpr
 go_enter Tryz.func184, Tryz.ntmps184
 cases f with
 | zero =>
  have hin:=zaG _ pb tg s hP0 (.func (.func 187) #[] #[.pointer (some ⟨w.heap.size,0,none⟩),.pointer (some ⟨w.heap.size + 1 + 1,0,none⟩)])
  have HF:Hid (bracketsF (subOf 0) s=(emp,s.fail 9)):=Lib.hid rfl
  have he9:(s.fail 9).e ≠ 0:=by unfold PS.fail; rw [if_pos he]; simp
  unfold PtrV at hin
  clear HO hP0
  go_wp2_with fail
  (with_reducible refine hin.mono ?_)
  rintro e w5 ⟨rfl,hM5,hP5⟩
  have c5:=hM5.cell ((za hc0 0).trans rfl) (by simp; omega)
  change w5.cell? _=some (.pointer (some ⟨w.heap.size + 1,0,none⟩)) at c5
  clear hin
  go_wp2_with fail
  go_ret
  exact ⟨w.heap.size + 1,rfl,(hMX.mono (L':=[pb]) (by simp)).trans hM5 (by simp),by rw [HF.out]; exact hP5,by rw [HF.out]; exact fun h => absurd h he9⟩
 | succ f =>
  have HF:Hid (bracketsF (subOf (f + 1)) s=(((lvl f).expr s.next).1,((lvl f).expr s.next).2.wants [wShut])):=Lib.hid (by
   show (if s.e=0 then _ else _)=_
   rw [if_pos he])
  have hin:=zbj _ pb tg s f hP0 he hk 187 (.inr (.inl rfl)) (.pointer (some ⟨w.heap.size,0,none⟩)) (.pointer (some ⟨w.heap.size + 1 + 1,0,none⟩)) (((lvl f).expr s.next).2.wants [wShut])
   (fun W' => ∃ W,Mods [pb] _ W ∧ Mods [pb,w.heap.size + 1 + 1] W W' ∧ Held (w.heap.size + 1 + 1) (lvl f).expr s.next W W')
   (fun W hM hP => (brackets1 W pb tg f (lvl f).expr s.next w.heap.size (w.heap.size + 1 + 1) (.pointer (some ⟨w.heap.size + 1,0,none⟩)) (hM.cell ((za hp0 0).trans rfl) (by simp; omega)) (hM.heap hc0 (by simp; omega)) (by omega) (by omega) (by omega) (by omega) hP.lt.1 (HO.out f rfl W s.next hP)).mono fun e W' h => ⟨h.1,h.2.1,W,hM,h.2.2.1,h.2.2.2⟩)
  unfold PtrV at hin
  clear HO hP0
  go_wp2_with fail
  (with_reducible refine hin.mono ?_)
  rintro e w5 ⟨rfl,hP5,W1,⟨W,hMa,hMb,yb,hfx,hfe⟩,hMc⟩
  clear hin
  have hx5:=hMc.heap hfx (by simp; omega)
  have c5:w5.cell? ⟨w.heap.size + 1 + 1,0,none⟩ = some (.pointer (some ⟨yb,0,none⟩)):=za hx5 0
  have hMw:Mods [pb] w w5:=(((hMX.mono (L':=[pb]) (by simp)).trans hMa (by simp)).trans hMb (fun y hy => by simp at hy; rcases hy with rfl | rfl; exact .inl (by simp); exact .inr (by omega))).trans hMc (by simp)
  have hsa:=hMX.size
  have hsb:=hMa.size
  have hfin:PRes pb tg (f + 1) (bracketsF (subOf (f + 1))) s w (.returned (.pointer (some ⟨yb,0,none⟩))) w5:=by
   refine ⟨yb,rfl,hMw,by rw [HF.out]; exact hP5,?_⟩
   rw [HF.out]
   intro he L hL
   exact ((hfe he (pb :: L) (fun y hy => by
    rcases List.mem_cons.1 hy with rfl | hy
    ·omega
    ·have:=hL _ hy; omega)).mods (hMc.mono (by simp))).weaken (fun y hy => List.mem_cons_of_mem _ hy)
  have HFIN:=Lib.hid hfin
  clear hfin hfx hfe hP5 hMa hMb hMc hMw hMX
  go_wp2_with fail
  go_ret
  exact HFIN.out
open Go.RowKit
set_option linter.unusedVariables false
def aggB (F:PF) (op:Bs) (pos:Nat) (s1:PS):Tree × PS:=
 let s2:=s1.wants [wOpen]
 if op=oCount ∧ (s2.takes wStar).1=true then (.leaf { op:=oAll,pos:=pos },(s2.takes wStar).2.wants [wShut])
 else
  let s3:=if op=oCount then (s2.takes wStar).2 else s2
  (.un { op:=op,pos:=pos } (F s3).1,(F s3).2.wants [wShut])
def AggAt (xb:Nat) (F:PF) (op:Bs) (pos:Nat) (s1:PS) (W W':World):Prop:=
 (aggB F op pos s1).2.e=0 → ∀ L:List Nat,(∀ z ∈ L,z < W.heap.size ∧ z ≠ xb) → ExprAt 133 82 W' L (PtrV xb) (aggB F op pos s1).1
set_option maxRecDepth 100000 in
set_option maxHeartbeats 4000000 in
theorem aggregate1 (W:World) (pb tg:Nat) (f:Nat) (F:PF) (s1:PS) (xp xc xb:Nat) (op:Bs) (pos:Nat) (h:PSt W pb tg s1 f)
  (hx:W.cell? ⟨xp,0,none⟩ = some (PtrV pb)) (hc:W.cell? ⟨xc,0,none⟩ = some (PtrV xb)) (hxb:W.heap[xb]? = some (.cells (hdC { op:=op,pos:=pos } (.slice none 0 0)).toArray 133 (0,0))) (hpp:xp ≠ pb) (hcp:xc ≠ pb) (hxp:xb ≠ pb) (hxt:xb ≠ tg) (hpx:xp ≠ xb)
  (hexpr:∀ W2 s2,PSt W2 pb tg s2 f → Calls Tryz.prog 45 #[PtrV pb] W2 (PRes pb tg f F s2 W2)) :
  Calls Tryz.prog 188 #[.pointer (some ⟨xp,0,none⟩),.pointer (some ⟨xc,0,none⟩)] W fun e W' => e = .returned (.tuple #[]) ∧ PSt W' pb tg (aggB F op pos s1).2 f ∧ Mods [pb,xb] W W' ∧ AggAt xb F op pos s1 W W':=by
 have hxw:xb < W.heap.size:=zi hxb
 have hpw:=h.lt
 have n1:xp ∉ [pb]:=by simpa using hpp
 have n2:xc ∉ [pb]:=by simpa using hcp
 have n3:xb ∉ [pb]:=by simpa using hxp
 have n4:xp ∉ [pb,xb]:=by simp; exact ⟨hpp,hpx⟩
 have hMs:=(Mods.refl [] W).alloc (.cells #[.string ⟨#[40]⟩] 9)
 have hwa:Calls Tryz.prog 39 #[PtrV pb,.slice (some ⟨W.heap.size,0,none⟩) 1 1] (W.alloc (.cells #[.string ⟨#[40]⟩] 9)) _:=zan _ pb tg _ f (h.later hMs) _ [wOpen] (zaa W wOpen 9) (by decide) (fun g off n c he => by simp only [Value.slice.injEq,Option.some.injEq,Addr.mk.injEq] at he; omega)
 have HEX:=Lib.hid hexpr
 unfold PtrV at *
 clear h hexpr
 go_enter Tryz.func188, Tryz.ntmps188
 go_wp2_with fail
 (with_reducible refine hwa.mono ?_)
 rintro e w2 ⟨rfl,hM2,hP2⟩
 clear hwa
 have hMw2:Mods [pb] W w2:=(hMs.mono (L':=[pb]) (by simp)).trans hM2 (by simp)
 clear hM2 hMs
 have x2:=hMw2.cell hx n1
 have c2:=hMw2.cell hc n2
 have hx2:=hMw2.heap hxb n3
 have y2:w2.cell? ⟨xb,0,none⟩ = some (.string ⟨op.toArray⟩):=za hx2 0
 by_cases hop:op=oCount
 ·subst hop
  change w2.cell? _=some (.string ⟨#[99,111,117,110,116]⟩) at y2
  have htk:Calls Tryz.prog 40 #[PtrV pb,.string ⟨#[42]⟩] _ _:=zD _ pb tg _ f hP2 wStar
  obtain ⟨b,hb⟩ : ∃ b,((s1.wants [wOpen]).takes wStar).1=b:=⟨_,rfl⟩
  rw [hb] at htk
  unfold PtrV at htk
  have HB:=Lib.hid hb
  clear hP2 hb hx2
  go_wp2_with fail
  (with_reducible refine htk.mono ?_)
  rintro e w3 ⟨rfl,hM3,hP3⟩
  clear htk
  have hMz:=hMw2.trans hM3 (by simp)
  cases b with
  | true =>
   have hxz:=hMz.heap hxb n3
   have xz:=hMz.cell hx n1
   have cz:=hMz.cell hc n2
   have y3:w3.cell? ⟨xb,0,none⟩ = some (.string ⟨#[99,111,117,110,116]⟩):=za hxz 0
   have g3:=zd hxz 0
   have HFz:Hid (aggB F oCount pos s1=(.leaf { op:=oAll,pos:=pos },((s1.wants [wOpen]).takes wStar).2.wants [wShut])):=Lib.hid (by unfold aggB; simp only [HB.out]; rfl)
   generalize ((s1.wants [wOpen]).takes wStar).2=s3 at *
   have hM4:Mods [xb] w3 (w3.setCell ⟨xb,0,none⟩ (.string ⟨#[99,111,117,110,116,97,108,108]⟩)):=(Mods.refl _ _).setCell (.inl (by simp)) _
   have hx4:=zb hxz 0 (.string ⟨#[99,111,117,110,116,97,108,108]⟩)
   have x4:=hM4.cell xz (by simpa using hpx)
   have hP4:=hP3.mods hM4 (by simpa using hxp.symm) (by simpa using hxt.symm)
   have H4:=Lib.hid (And.intro hP4 (And.intro hM4 hx4))
   clear hP4 hM4 hx4 hP3 hM3 hMw2 x2 c2 y2 hxz HEX
   go_upto_region 4 with fail
   generalize w3.setCell ⟨xb,0,none⟩ (.string ⟨#[99,111,117,110,116,97,108,108]⟩)=w7 at *
   have hMs:=(Mods.refl [] w7).alloc (.cells #[.string ⟨#[41]⟩] 9)
   have hl7:=H4.out.1.lt
   have hwa:Calls Tryz.prog 39 #[PtrV pb,.slice (some ⟨w7.heap.size,0,none⟩) 1 1] (w7.alloc (.cells #[.string ⟨#[41]⟩] 9)) _:=zan _ pb tg _ f (H4.out.1.later hMs) _ [wShut] (zaa w7 wShut 9) (by decide) (fun g off n c he => by simp only [Value.slice.injEq,Option.some.injEq,Addr.mk.injEq] at he; omega)
   unfold PtrV at hwa
   go_wp2_with fail
   (with_reducible refine hwa.mono ?_)
   rintro e w9 ⟨rfl,hM9,hP9⟩
   clear hwa
   go_wp2_with fail
   go_end0
   obtain ⟨-,hM7,hf1⟩:=H4.out
   have h79:Mods [pb] w7 w9:=(hMs.mono (L':=[pb]) (by simp)).trans hM9 (by simp)
   refine ⟨rfl,by rw [HFz.out]; exact hP9,((hMz.mono (L':=[pb,xb]) (by simp)).trans (hM7.mono (L':=[pb,xb]) (by simp)) (by simp)).trans (h79.mono (L':=[pb,xb]) (by simp)) (by simp),?_⟩
   unfold AggAt
   rw [HFz.out]
   intro he L hL
   exact ⟨xb,rfl,fun hm => (hL _ hm).2 rfl,h79.heap hf1 n3⟩
  | false =>
   have HFz:Hid (aggB F oCount pos s1=(.un { op:=oCount,pos:=pos } (F ((s1.wants [wOpen]).takes wStar).2).1,(F ((s1.wants [wOpen]).takes wStar).2).2.wants [wShut])):=Lib.hid (by unfold aggB; simp only [HB.out]; rfl)
   generalize ((s1.wants [wOpen]).takes wStar).2=s3 at *
   have hPz:=hP3
   clear hP3 hM3 hMw2 x2 c2 y2
   generalize w3=wz at *
   go_wp2_with fail
   have hxz:=hMz.heap hxb n3
   have xz:wz.drew.cell? ⟨xp,0,none⟩ = some (.pointer (some ⟨pb,0,none⟩)):=hMz.cell hx n1
   have cz:wz.drew.cell? ⟨xc,0,none⟩ = some (.pointer (some ⟨xb,0,none⟩)):=hMz.cell hc n2
   have hcall:=HEX.out wz.drew s3 (hPz.later (Mods.refl [] wz).drew)
   have hwz:=hMz.size
   clear hPz
   go_region_with ((with_reducible refine hcall.mono ?_); rintro e w5 ⟨yb,rfl,hM5,hP5,hE5⟩; dsimp only [PtrV]; have hx5:=hM5.heap (show wz.drew.heap[xb]? = _ from hxz) n3; have c5:w5.cell? ⟨xc,0,none⟩ = some (.pointer (some ⟨xb,0,none⟩)):=hM5.cell cz n2; have y5:w5.cell? ⟨xb,7,none⟩ = some (.slice none 0 0):=za hx5 7; have f5:=zd hx5 7; have z6:=((Mods.refl [] w5).alloc (.cells #[.pointer (some ⟨yb,0,none⟩)] 82)); have c6:=z6.cell c5 (by simp); have y6:=z6.cell y5 (by simp); have f6:=zd (z6.heap hx5 (by simp)) 7)
   all_goals
    obtain ⟨hP7,hM7,ab,yb',hf1,hf2,hf3,hf4⟩:=zbk hxp hxt (Nat.lt_of_lt_of_le hxw hwz) hx5 hM5 hP5 hE5
    have x7:=hM7.cell (show wz.cell? ⟨xp,0,none⟩ = _ from xz) n4
    have H7:=Lib.hid (And.intro hP7 (And.intro hM7 (And.intro hf1 (And.intro hf2 (And.intro hf3 hf4)))))
    clear hP7 hM7 hf1 hf2 hf3 hf4 hP5 hE5 hM5 hx5 z6 hcall
    go_upto_region 4 with fail
    generalize (w5.alloc (.cells #[.pointer (some ⟨yb,0,none⟩)] 82)).setCell ⟨xb,7,none⟩ (.slice (some ⟨w5.heap.size,0,none⟩) 1 1)=w7 at *
    have hMs:=(Mods.refl [] w7).alloc (.cells #[.string ⟨#[41]⟩] 9)
    have hl7:=H7.out.1.lt
    have hwa:Calls Tryz.prog 39 #[PtrV pb,.slice (some ⟨w7.heap.size,0,none⟩) 1 1] (w7.alloc (.cells #[.string ⟨#[41]⟩] 9)) _:=zan _ pb tg _ f (H7.out.1.later hMs) _ [wShut] (zaa w7 wShut 9) (by decide) (fun g off n c he => by simp only [Value.slice.injEq,Option.some.injEq,Addr.mk.injEq] at he; omega)
    unfold PtrV at hwa
    go_wp2_with fail
    (with_reducible refine hwa.mono ?_)
    rintro e w9 ⟨rfl,hM9,hP9⟩
    clear hwa
    go_wp2_with fail
    go_end0
    obtain ⟨-,hM7,hf1,hf2,hf3,hf4⟩:=H7.out
    have h79:Mods [pb] w7 w9:=(hMs.mono (L':=[pb]) (by simp)).trans hM9 (by simp)
    refine ⟨rfl,by rw [HFz.out]; exact hP9,((hMz.mono (L':=[pb,xb]) (by simp)).trans hM7 (by simp)).trans (h79.mono (L':=[pb,xb]) (by simp)) (by simp),?_⟩
    unfold AggAt
    rw [HFz.out]
    intro he L hL
    refine ⟨xb,ab,PtrV yb',rfl,fun hm => (hL _ hm).2 rfl,fun hm => by have:=(hL _ hm).1; omega,h79.heap hf1 n3,h79.heap hf2 (by simp; omega),?_⟩
    exact ((hf4 (zco he) (pb :: L) fun z hm => by
     rcases List.mem_cons.1 hm with rfl | hm
     ·omega
     ·have:=(hL _ hm).1; omega).mods (h79.mono (by simp))).weaken (fun z hm => List.mem_cons_of_mem _ hm)
 ·have HFz:Hid (aggB F op pos s1=(.un { op:=op,pos:=pos } (F (s1.wants [wOpen])).1,(F (s1.wants [wOpen])).2.wants [wShut])):=Lib.hid (by unfold aggB; simp only [hop]; rfl)
  generalize s1.wants [wOpen]=s3 at *
  have e0:¬ (⟨op.toArray⟩ : ByteArray) = ⟨#[99,111,117,110,116]⟩:=fun h => hop (by
   have:=congrArg (fun b => b.data.toList) h
   exact (by simpa using this:op=[99,111,117,110,116]))
  have e2:¬ (⟨op.toArray⟩ : ByteArray).toList=[99,111,117,110,116]:=by rw [ByteArray.toList_eq]; exact fun h => hop (by simpa using h:op=[99,111,117,110,116])
  have e3:((⟨op.toArray⟩ : ByteArray).toList == [99,111,117,110,116])=false:=by rw [beq_eq_false_iff_ne]; exact e2
  have hMz:=hMw2
  have hPz:=hP2
  clear hP2 hMw2
  generalize w2=wz at *
  go_wp2_with fail
  clear e0 e2 e3 x2 c2 y2 hx2
  have hxz:=hMz.heap hxb n3
  have xz:wz.drew.cell? ⟨xp,0,none⟩ = some (.pointer (some ⟨pb,0,none⟩)):=hMz.cell hx n1
  have cz:wz.drew.cell? ⟨xc,0,none⟩ = some (.pointer (some ⟨xb,0,none⟩)):=hMz.cell hc n2
  have hcall:=HEX.out wz.drew s3 (hPz.later (Mods.refl [] wz).drew)
  have hwz:=hMz.size
  clear hPz
  go_region_with ((with_reducible refine hcall.mono ?_); rintro e w5 ⟨yb,rfl,hM5,hP5,hE5⟩; dsimp only [PtrV]; have hx5:=hM5.heap (show wz.drew.heap[xb]? = _ from hxz) n3; have c5:w5.cell? ⟨xc,0,none⟩ = some (.pointer (some ⟨xb,0,none⟩)):=hM5.cell cz n2; have y5:w5.cell? ⟨xb,7,none⟩ = some (.slice none 0 0):=za hx5 7; have f5:=zd hx5 7; have z6:=((Mods.refl [] w5).alloc (.cells #[.pointer (some ⟨yb,0,none⟩)] 82)); have c6:=z6.cell c5 (by simp); have y6:=z6.cell y5 (by simp); have f6:=zd (z6.heap hx5 (by simp)) 7)
  all_goals
   obtain ⟨hP7,hM7,ab,yb',hf1,hf2,hf3,hf4⟩:=zbk hxp hxt (Nat.lt_of_lt_of_le hxw hwz) hx5 hM5 hP5 hE5
   have x7:=hM7.cell (show wz.cell? ⟨xp,0,none⟩ = _ from xz) n4
   have H7:=Lib.hid (And.intro hP7 (And.intro hM7 (And.intro hf1 (And.intro hf2 (And.intro hf3 hf4)))))
   clear hP7 hM7 hf1 hf2 hf3 hf4 hP5 hE5 hM5 hx5 z6 hcall
   go_upto_region 4 with fail
   generalize (w5.alloc (.cells #[.pointer (some ⟨yb,0,none⟩)] 82)).setCell ⟨xb,7,none⟩ (.slice (some ⟨w5.heap.size,0,none⟩) 1 1)=w7 at *
   have hMs:=(Mods.refl [] w7).alloc (.cells #[.string ⟨#[41]⟩] 9)
   have hl7:=H7.out.1.lt
   have hwa:Calls Tryz.prog 39 #[PtrV pb,.slice (some ⟨w7.heap.size,0,none⟩) 1 1] (w7.alloc (.cells #[.string ⟨#[41]⟩] 9)) _:=zan _ pb tg _ f (H7.out.1.later hMs) _ [wShut] (zaa w7 wShut 9) (by decide) (fun g off n c he => by simp only [Value.slice.injEq,Option.some.injEq,Addr.mk.injEq] at he; omega)
   unfold PtrV at hwa
   go_wp2_with fail
   (with_reducible refine hwa.mono ?_)
   rintro e w9 ⟨rfl,hM9,hP9⟩
   clear hwa
   go_wp2_with fail
   go_end0
   obtain ⟨-,hM7,hf1,hf2,hf3,hf4⟩:=H7.out
   have h79:Mods [pb] w7 w9:=(hMs.mono (L':=[pb]) (by simp)).trans hM9 (by simp)
   refine ⟨rfl,by rw [HFz.out]; exact hP9,((hMz.mono (L':=[pb,xb]) (by simp)).trans hM7 (by simp)).trans (h79.mono (L':=[pb,xb]) (by simp)) (by simp),?_⟩
   unfold AggAt
   rw [HFz.out]
   intro he L hL
   refine ⟨xb,ab,PtrV yb',rfl,fun hm => (hL _ hm).2 rfl,fun hm => by have:=(hL _ hm).1; omega,h79.heap hf1 n3,h79.heap hf2 (by simp; omega),?_⟩
   exact ((hf4 (zco he) (pb :: L) fun z hm => by
    rcases List.mem_cons.1 hm with rfl | hm
    ·omega
    ·have:=(hL _ hm).1; omega).mods (h79.mono (by simp))).weaken (fun z hm => List.mem_cons_of_mem _ hm)
open Go.RowKit
set_option linter.unusedVariables false
theorem Mods.rules0 {w w':World} (h:Mods [] w w'):(∀ b o,b < w.heap.size → w'.cell? ⟨b,o,none⟩ = w.cell? ⟨b,o,none⟩) ∧ (∀ b o,b < w.heap.size → w'.frozen? ⟨b,o,none⟩ = w.frozen? ⟨b,o,none⟩) ∧ w.heap.size ≤ w'.heap.size:=
 ⟨fun b o hb => World.cell?_of_block (h.block b hb (by simp)),fun b o hb => World.frozen?_of_block (h.block b hb (by simp)),h.size⟩
theorem keepS1 {W w':World} {p:Addr} {x:Value} (h0:W.cell? p=some x) (h:Mods [] W w'):w'.cell? p=some x ∧ W.heap.size ≤ w'.heap.size ∧ Mods [] W w':=⟨h.cell h0 (by simp),h.size,h⟩
theorem zc1 (w:World):w.drew.heap=w.heap:=rfl
def CutAgg (W0:World) (op:Bs) (pos:Nat) (s3:Value) (wx:World):Prop:=
 ∃ xb xc,s3 = .pointer (some ⟨xc,0,none⟩) ∧ W0.heap.size ≤ xb ∧ W0.heap.size ≤ xc ∧ xb ≠ xc ∧ Mods [] W0 wx ∧ wx.heap[xc]? = some (.cells #[PtrV xb] 82 (0,0)) ∧ wx.heap[xb]? = some (.cells (hdC { op:=op,pos:=pos } (.slice none 0 0)).toArray 133 (0,0))
theorem cutAggA {W0 W w1:World} {op:Bs} {pos:Nat} (h:Mods [] W0 W) (h':Mods [] (W.alloc (.cells #[.pointer none] 82)) w1) :
  CutAgg W0 op pos (.pointer (some ⟨W.heap.size,0,none⟩)) ((w1.setCell ⟨W.heap.size,0,none⟩ (.pointer (some ⟨w1.heap.size,0,none⟩))).alloc (.cells #[.string ⟨op.toArray⟩,.int .i64 pos,.string ⟨#[]⟩,.string ⟨#[]⟩,.int .i64 0,.int .i64 0,.string ⟨#[]⟩,.slice none 0 0] 133)):=by
 have hs:=h'.size
 rw [zk] at hs
 have hm:=h.size
 have hx:=h'.heap (heap_alloc_new W (.cells #[.pointer none] 82)) (by simp)
 have hx2:=zb hx 0 (.pointer (some ⟨w1.heap.size,0,none⟩))
 have hw:=((h.alloc (.cells #[.pointer none] 82)).trans h' (by simp)).setCell (p:=⟨W.heap.size,0,none⟩) (.inr (by show W0.heap.size ≤ W.heap.size; omega)) (.pointer (some ⟨w1.heap.size,0,none⟩))
 have hz:(w1.setCell ⟨W.heap.size,0,none⟩ (.pointer (some ⟨w1.heap.size,0,none⟩))).heap.size=w1.heap.size:=by simp [World.setCell]
 generalize w1.setCell ⟨W.heap.size,0,none⟩ (.pointer (some ⟨w1.heap.size,0,none⟩))=w2 at *
 rw [← hz] at hx2
 exact ⟨w2.heap.size,W.heap.size,rfl,by omega,by omega,by omega,hw.alloc _,((Mods.refl [] w2).alloc _).heap hx2 (by simp),heap_alloc_new w2 _⟩
theorem cutAggD {W0 W w1:World} {op:Bs} {pos:Nat} (h:Mods [] W0 W) (h':Mods [] (W.alloc (.cells #[.pointer none] 82)).drew w1) :
  CutAgg W0 op pos (.pointer (some ⟨W.heap.size,0,none⟩)) ((w1.setCell ⟨W.heap.size,0,none⟩ (.pointer (some ⟨w1.heap.size,0,none⟩))).alloc (.cells #[.string ⟨op.toArray⟩,.int .i64 pos,.string ⟨#[]⟩,.string ⟨#[]⟩,.int .i64 0,.int .i64 0,.string ⟨#[]⟩,.slice none 0 0] 133)):=
 cutAggA h ((Mods.refl [] _).drew.trans h' (by simp))
theorem cutAggC {W0 w1:World} {op:Bs} {pos:Nat} (h:Mods [] W0 w1) :
  CutAgg W0 op pos (.pointer (some ⟨w1.heap.size,0,none⟩)) ((w1.alloc (.cells #[.pointer (some ⟨w1.heap.size + 1,0,none⟩)] 82)).alloc (.cells #[.string ⟨op.toArray⟩,.int .i64 pos,.string ⟨#[]⟩,.string ⟨#[]⟩,.int .i64 0,.int .i64 0,.string ⟨#[]⟩,.slice none 0 0] 133)):=by
 have hm:=h.size
 obtain ⟨h1,h2⟩:=zaH w1 (.cells #[.pointer (some ⟨w1.heap.size + 1,0,none⟩)] 82) (.cells #[.string ⟨op.toArray⟩,.int .i64 pos,.string ⟨#[]⟩,.string ⟨#[]⟩,.int .i64 0,.int .i64 0,.string ⟨#[]⟩,.slice none 0 0] 133)
 exact ⟨w1.heap.size + 1,w1.heap.size,rfl,by omega,by omega,by omega,(h.alloc _).alloc _,h1,h2⟩
theorem cutAggB {W0 w1:World} {op:Bs} {pos:Nat} (h:Mods [] W0 w1) :
  CutAgg W0 op pos (.pointer (some ⟨w1.heap.size + 1,0,none⟩)) ((w1.alloc (.cells #[.string ⟨op.toArray⟩,.int .i64 pos,.string ⟨#[]⟩,.string ⟨#[]⟩,.int .i64 0,.int .i64 0,.string ⟨#[]⟩,.slice none 0 0] 133)).alloc (.cells #[.pointer (some ⟨w1.heap.size,0,none⟩)] 82)):=by
 have hm:=h.size
 obtain ⟨h1,h2⟩:=zaH w1 (.cells #[.string ⟨op.toArray⟩,.int .i64 pos,.string ⟨#[]⟩,.string ⟨#[]⟩,.int .i64 0,.int .i64 0,.string ⟨#[]⟩,.slice none 0 0] 133) (.cells #[.pointer (some ⟨w1.heap.size,0,none⟩)] 82)
 exact ⟨w1.heap.size,w1.heap.size + 1,rfl,by omega,by omega,by omega,(h.alloc _).alloc _,h2,h1⟩
set_option maxRecDepth 100000 in
set_option maxHeartbeats 4000000 in
theorem zdw (w:World) (pb tg:Nat) (f:Nat) (s:PS) (h:PSt w pb tg s f) (he:s.e=0) (hk:s.now.kind ≠ 0) (hlen:s.now.s.length ≤ 1000) (hasc:∀ b ∈ s.now.s,b.toNat < 128)
  (hexpr:∀ f',f=f' + 1 → ∀ W s1,PSt W pb tg s1 f' → Calls Tryz.prog 45 #[PtrV pb] W (PRes pb tg f' (lvl f').expr s1 W)) :
  Calls Tryz.prog 185 #[PtrV pb] w (PRes pb tg f (aggregateF (subOf f)) s w):=by
 have hpw:=h.lt
 have hlow:=fun W => zaR s.now.s hlen hasc W
 have hMa:=(Mods.refl [] w).alloc (.cells #[.pointer (some ⟨pb,0,none⟩)] 69)
 have hb0:=heap_alloc_new w (.cells #[.pointer (some ⟨pb,0,none⟩)] 69)
 have hP0:=h.later hMa
 have hfd1:=zW s.now
 have hfd2:=zfS s.now
 have c0:(w.alloc (.cells #[.pointer (some ⟨pb,0,none⟩)] 69)).cell? ⟨w.heap.size,0,none⟩ = some (.pointer (some ⟨pb,0,none⟩)):=za hb0 0
 have HO:=Lib.hid hexpr
 have hnowG:∀ W,Mods [] (w.alloc (.cells #[.pointer (some ⟨pb,0,none⟩)] 69)) W → Calls Tryz.prog 43 #[.pointer (some ⟨pb,0,none⟩)] W fun e w' => e = .returned (.agg #[.int .i64 s.now.kind,.int .i64 s.now.pos,.string ⟨s.now.s.toArray⟩,.int .i64 s.now.n,.int .i64 s.now.scale]) ∧ Mods [] (w.alloc (.cells #[.pointer (some ⟨pb,0,none⟩)] 69)) w' ∧ Mods [] W w':=
  fun W hM => (zZ W pb tg s f (hP0.later hM)).mono fun e w' h => ⟨h.1,hM.trans h.2 (by simp),h.2⟩
 have hlowG:∀ W,Mods [] (w.alloc (.cells #[.pointer (some ⟨pb,0,none⟩)] 69)) W → Calls Tryz.prog 108 #[.string ⟨s.now.s.toArray⟩] W fun e w' => e = .returned (.string ⟨(s.now.s.map lowc).toArray⟩) ∧ Mods [] (w.alloc (.cells #[.pointer (some ⟨pb,0,none⟩)] 69)) w' ∧ Mods [] W w':=
  fun W hM => (hlow W).mono fun e w' h => ⟨h.1,hM.trans h.2 (by simp),h.2⟩
 have HM0:=Lib.hid hMa
 have HP0:=Lib.hid (And.intro hP0 hb0)
 have hsz:(w.alloc (.cells #[.pointer (some ⟨pb,0,none⟩)] 69)).heap.size=w.heap.size + 1:=zk _ _
 have HSZ:=Lib.hid hsz
 clear hsz
 unfold PtrV at *
 clear h hexpr hMa hb0 hP0 hlow
 go_enter Tryz.func185, Tryz.ntmps185
 go_upto_region 1 with fail
 generalize w.alloc (.cells #[.pointer (some ⟨pb,0,none⟩)] 69)=W0 at *
 obtain ⟨op,hop⟩ : ∃ op,s.now.s.map lowc=op:=⟨_,rfl⟩
 obtain ⟨t,ht⟩ : ∃ t,s.now=t:=⟨_,rfl⟩
 rw [hop] at hlowG
 rw [ht] at hlowG hnowG hfd1 hfd2
 have HOP:=Lib.hid (And.intro hop ht)
 clear hop ht
 go_cut [3] (fun s3 wx => CutAgg W0 op t.pos s3 wx)
 case first =>
  go_region_held3 (fun w' => w'.cell? ⟨w.heap.size,0,none⟩ = some (.pointer (some ⟨pb,0,none⟩)) ∧ W0.heap.size ≤ w'.heap.size ∧ Mods [] W0 w')
   (((with_reducible refine keepS1 c0 ?_); (repeat (first | (with_reducible refine Mods.drew ?_) | (with_reducible refine Mods.alloc ?_ _) | (with_reducible refine Mods.setCell ?_ (.inr (by show _ ≤ (_:Nat); dsimp only; omega)) _))); first | assumption | exact Mods.refl _ _ | simp only [*]))
   (first | (go_at_call 43; refine (hnowG _ ?_).mono ?_; (first | assumption | simp only [*]); rintro e w'' ⟨rfl,hm1,hr1⟩; have hs1:=hm1.size; obtain ⟨ha1,hb1,hc1⟩:=hr1.rules0; (try simp only [zc1] at ha1 hb1 hc1); (try simp only [zk] at ha1 hb1 hc1); (first | (have hd1:=Nat.lt_of_succ_le hc1; skip) | (have hd1:=Nat.lt_of_lt_of_le hd2 hc1; skip) | skip)) | (go_at_call 108; refine (hlowG _ ?_).mono ?_; (first | assumption | simp only [*]); rintro e w'' ⟨rfl,hm2,hr2⟩; have hs2:=hm2.size; obtain ⟨ha2,hb2,hc2⟩:=hr2.rules0; (try simp only [zc1] at ha2 hb2 hc2); (try simp only [zk] at ha2 hb2 hc2); (first | (have hd2:=Nat.lt_of_succ_le hc2; skip) | (have hd2:=Nat.lt_of_lt_of_le hd1 hc2; skip) | skip)))
  all_goals
   go_wp2_with fail
   go_meet
   first
    | exact cutAggB (by assumption)
    | exact cutAggC (by assumption)
    | exact cutAggA (Mods.refl _ _) (by assumption)
    | exact cutAggA (by assumption) (by assumption)
    | (refine cutAggA (by first | assumption | exact Mods.refl _ _) ?_; apply Mods.trans (L':=[]); assumption; (first | assumption | (apply Mods.trans (L':=[]); assumption; assumption; simp)); simp)
    | (refine cutAggD (by first | assumption | exact Mods.refl _ _) ?_; apply Mods.trans (L':=[]); assumption; (first | assumption | (apply Mods.trans (L':=[]); assumption; assumption; simp)); simp)
 case rest =>
  obtain ⟨xb,xc,rfl,hxb,hxc,hne,hMx,hcx,hbx⟩:=hcut
  have c0x:wc.cell? ⟨w.heap.size,0,none⟩ = some (.pointer (some ⟨pb,0,none⟩)):=hMx.cell c0 (by simp)
  have hPx:=HP0.out.1.later hMx
  have hsz:=HSZ.out
  have hMw:Mods [pb] w wc:=((HM0.out.trans hMx (by simp)).mono (by simp))
  obtain ⟨hop,ht⟩:=HOP.out
  have ccx:wc.cell? ⟨xc,0,none⟩ = some (PtrV xb):=za hcx 0
  clear hnowG hlowG hfd1 hfd2 c0
  cases f with
  | zero =>
   have hin:=zaG wc pb tg s hPx (.func (.func 188) #[] #[.pointer (some ⟨w.heap.size,0,none⟩),.pointer (some ⟨xc,0,none⟩)])
   have HF:Hid (aggregateF (subOf 0) s=(.leaf { op:=op,pos:=t.pos },s.fail 9)):=Lib.hid (by rw [← hop,← ht]; rfl)
   have he9:(s.fail 9).e ≠ 0:=by unfold PS.fail; rw [if_pos he]; simp
   unfold PtrV at hin
   clear HO hPx hop ht
   go_wp2_with fail
   (with_reducible refine hin.mono ?_)
   rintro e w5 ⟨rfl,hM5,hP5⟩
   have c5:=hM5.cell ccx (by simp; omega)
   unfold PtrV at c5
   clear hin
   go_wp2_with fail
   go_ret
   exact ⟨xb,rfl,hMw.trans hM5 (by simp),by rw [HF.out]; exact hP5,by rw [HF.out]; exact fun h => absurd h he9⟩
  | succ f =>
   have HF:Hid (aggregateF (subOf (f + 1)) s=aggB (lvl f).expr op t.pos s.next):=Lib.hid (by
    rw [← hop,← ht]
    show (if s.e=0 then _ else _)=_
    rw [if_pos he]
    rfl)
   have hin:=zbj wc pb tg s f hPx he hk 188 (.inr (.inr rfl)) (.pointer (some ⟨w.heap.size,0,none⟩)) (.pointer (some ⟨xc,0,none⟩)) (aggB (lvl f).expr op t.pos s.next).2
    (fun W' => ∃ W,Mods [pb] wc W ∧ Mods [pb,xb] W W' ∧ AggAt xb (lvl f).expr op t.pos s.next W W')
    (fun W hM hP => (aggregate1 W pb tg f (lvl f).expr s.next w.heap.size xc xb op t.pos hP (hM.cell c0x (by simp; omega)) (hM.cell ccx (by simp; omega)) (hM.heap hbx (by simp; omega)) (by omega) (by omega) (by omega) (by omega) (by omega) (fun W2 s2 hP2 => HO.out f rfl W2 s2 hP2)).mono fun e W' h => ⟨h.1,h.2.1,W,hM,h.2.2.1,h.2.2.2⟩)
   unfold PtrV at hin
   clear HO hPx hop ht
   go_wp2_with fail
   (with_reducible refine hin.mono ?_)
   rintro e w5 ⟨rfl,hP5,W1,⟨W,hMa,hMb,hfe⟩,hMc⟩
   clear hin
   have hsa:=hMa.size
   have hsx:=hMx.size
   have c5:=hMc.cell (hMb.cell (hMa.cell ccx (by simp; omega)) (by simp; omega)) (by simp; omega)
   unfold PtrV at c5
   have hMw5:Mods [pb] w w5:=((hMw.trans hMa (by simp)).trans hMb (fun y hy => by simp at hy; rcases hy with rfl | rfl; exact .inl (by simp); exact .inr (by omega))).trans hMc (by simp)
   have hfin:PRes pb tg (f + 1) (aggregateF (subOf (f + 1))) s w (.returned (.pointer (some ⟨xb,0,none⟩))) w5:=by
    refine ⟨xb,rfl,hMw5,by rw [HF.out]; exact hP5,?_⟩
    rw [HF.out]
    intro he L hL
    exact ((hfe he (pb :: L) (fun y hy => by
     rcases List.mem_cons.1 hy with rfl | hy
     ·exact ⟨by omega,by omega⟩
     ·have:=hL _ hy; exact ⟨by omega,by omega⟩)).mods (hMc.mono (by simp))).weaken (fun y hy => List.mem_cons_of_mem _ hy)
   have HFIN:=Lib.hid hfin
   clear hfin hfe hP5 hMa hMb hMc hMw hMw5 hMx
   go_wp2_with fail
   go_ret
   exact HFIN.out
end Go.Proofs.YtgdpaieechgahaaGreatDoor
