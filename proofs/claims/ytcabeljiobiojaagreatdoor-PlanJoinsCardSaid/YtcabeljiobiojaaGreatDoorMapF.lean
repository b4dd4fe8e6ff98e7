/-
  A map that is filled in whatever order: what it holds, as facts. It speaks of no program; no condition.
-/
import Derived.Test.YtcabeljiobiojaaGreatDoorQ00
import Derived.Maps.Keyed
set_option linter.unusedVariables false
namespace Go.Proofs.YtcabeljiobiojaaGreatDoor
open Go.RowKit
open Go.Maps
def Kept (w w':World):Prop:=w.heap.size ≤ w'.heap.size ∧ ∀ (k:Nat) (o:Obj),w.heap[k]? = some o → (∀ es c,o ≠ .map es c) → w'.heap[k]? = some o
theorem Kept.refl (w:World):Kept w w:=⟨LR _,fun k o h _ => h⟩
theorem Kept.of_mods {w w':World} (h:Mods [] w w'):Kept w w':=⟨h.size,fun k o hk _ => h.heap hk⟩
theorem Kept.cell {w w':World} (h:Kept w w') {p:Addr} {v:Value} (hv:w.cell? p=some v):w'.cell? p=some v:=by
 have h0:=hv;unfold World.cell? at hv;split at hv
 ·rename_i c t fr hg
  have:=h.2 _ _ hg AB;simp only [World.cell?,this];exact hv
 ·cases hv
def MapGood (P:Program) (kt:TypeId) (G:Value → Value → World → Prop) (w:World) (mb:Nat):Prop:=
 ∃ es c,w.heap[mb]? = some (.map es c) ∧ ∀ e ∈ es.toList,(∃ l,keyOf P kt e.key=some l) ∧ G e.key e.val w
def MapHas (w:World) (mb:Nat) (k:Value):Prop:=∃ es c,w.heap[mb]? = some (.map es c) ∧ ∃ e ∈ es.toList,e.key=k
structure MStep (P:Program) (kt:TypeId) (G:Value → Value → World → Prop) (w w':World):Prop where
 kept:Kept w w'
 maps:∀ (k:Nat) es c,w.heap[k]? = some (.map es c) → ∃ es' c',w'.heap[k]? = some (.map es' c') ∧ (∀ e ∈ es'.toList,e ∈ es.toList ∨ ((∃ l,keyOf P kt e.key=some l) ∧ G e.key e.val w')) ∧ ∀ e ∈ es.toList,∃ e' ∈ es'.toList,e'.key=e.key
theorem MStep.of_mods {P:Program} {kt:TypeId} {G:Value → Value → World → Prop} {w w':World} (h:Mods [] w w'):MStep P kt G w w':=
 ⟨Kept.of_mods h,fun k es c hk => ⟨es,c,h.heap hk,fun e he => .inl he,fun e he => ⟨e,he,rfl⟩⟩⟩
theorem MapGood.step {P:Program} {kt:TypeId} {G:Value → Value → World → Prop} {w w':World} {mb:Nat} (h:MapGood P kt G w mb) (hS:MStep P kt G w w') (hG:∀ k v,G k v w → G k v w'):MapGood P kt G w' mb:=by
 obtain ⟨es,c,h1,h2⟩:=h;obtain ⟨es',c',h3,h4,-⟩:=hS.maps mb es c h1;refine ⟨es',c',h3,fun e he => ?_⟩;rcases h4 e he with h5 | h5
 ·exact ⟨(h2 e h5).1,hG _ _ (h2 e h5).2⟩
 ·exact h5
theorem MapHas.step {P:Program} {kt:TypeId} {G:Value → Value → World → Prop} {w w':World} {mb:Nat} {k:Value} (h:MapHas w mb k) (hS:MStep P kt G w w'):MapHas w' mb k:=by obtain ⟨es,c,h1,e,h2,h3⟩:=h;obtain ⟨es',c',h4,-,h5⟩:=hS.maps mb es c h1;obtain ⟨e',h6,h7⟩:=h5 e h2;exact ⟨es',c',h4,e',h6,h7.trans h3⟩
theorem zb8 {P:Program} {T kt et:TypeId} (K:Keyed P kt) (hT:P.underlying T=some (.map kt et)) {w:World} {mb:Nat} {es:Array MapEntry} {clock:Nat} (hb:w.heap[mb]? = some (.map es clock)) {k v:Value} {l:Lit} (hk:keyOf P kt k=some l)
  (hf:(Instr.findKey kt k es.toList).run P w = .ok none w) :
  (Instr.mapUpdate T (.map (some mb)) k v).run P w = .ok () (setHeap w mb (.map (es.push { key:=k,val:=v,born:=clock }) (clock + 1))):=by
 have hc:(Instr.checkKey false 10000 kt k).run P w = .ok () w:=K.check w _ hk;simp [Instr.mapUpdate,run_underlying hT,MapKept.run_getObj_map hb,hc,hf,MapKept.run_setObj_map _ hb,Result.andThen];rfl
theorem zdP {P:Program} {T kt et:TypeId} (K:Keyed P kt) (hT:P.underlying T=some (.map kt et)) {w:World} {mb:Nat} {es:Array MapEntry} {clock:Nat} (hb:w.heap[mb]? = some (.map es clock)) {k v:Value} {l:Lit} (hk:keyOf P kt k=some l)
  {j:Nat} {e:MapEntry} (hf:(Instr.findKey kt k es.toList).run P w = .ok (some (j,e.val)) w) (he:es[j]? = some e) (hek:e.key=k) :
  (Instr.mapUpdate T (.map (some mb)) k v).run P w = .ok () (setHeap w mb (.map (es.modify j fun e => { e with key:=k,val:=v }) clock)):=by
 have hc:(Instr.checkKey false 10000 kt k).run P w = .ok () w:=K.check w _ hk;have hs:(Instr.keyThatStays k k).run P w = .ok k w:=K.stays w hk;simp [Instr.mapUpdate,run_underlying hT,MapKept.run_getObj_map hb,hc,hf,he,hek,hs,MapKept.run_setObj_map _ hb,Result.andThen];rfl
theorem zbU {w:World} {mb:Nat} {es es':Array MapEntry} {c c':Nat} (hb:w.heap[mb]? = some (.map es c)):Kept w (setHeap w mb (.map es' c')):=by
 refine ⟨by simp [setHeap],fun k o hk hn => ?_⟩;have hne:k ≠ mb:=fun e => by subst e; rw [hb] at hk; cases hk; exact hn _ _ rfl
 exact ((MapKept.heap_set (o':=.map es' c') hb).2 k hne).trans hk
theorem zaY {P:Program} {T kt et:TypeId} (K:Keyed P kt) (hT:P.underlying T=some (.map kt et)) {G:Value → Value → World → Prop} (hG:∀ k v w w',Kept w w' → G k v w → G k v w') {w:World} {mb:Nat} (h:MapGood P kt G w mb) {k v:Value} {l:Lit} (hk:keyOf P kt k=some l) (hv:G k v w) :
  ∃ w',(Instr.mapUpdate T (.map (some mb)) k v).run P w = .ok () w' ∧ MStep P kt G w w' ∧ MapHas w' mb k ∧ ∀ W0,Mods [] W0 w → W0.heap.size ≤ mb → Mods [] W0 w':=by
 obtain ⟨es,c,hb,hes⟩:=h;rcases K.find w hk es.toList (fun e he => (hes e he).1) with ⟨hf,hn⟩ | ⟨j,e,hf,he,hek⟩
 ·refine ⟨_,zb8 K hT hb hk hf,⟨zbU hb,fun k' es1 c1 hk' => ?_⟩,⟨_,_,zae hb,{ key:=k,val:=v,born:=c },by simp,rfl⟩,fun W0 hM hW => hM.setHeap (.inr hW) _⟩;by_cases hkm:k'=mb
  ·subst hkm;rw [hb] at hk';cases hk';refine ⟨_,_,zae hb,fun e he => ?_,fun e he => ⟨e,by simp [he],rfl⟩⟩;simp only [Array.toList_push,List.mem_append,List.mem_singleton] at he;rcases he with he | rfl
   ·exact .inl he
   ·exact .inr ⟨⟨l,hk⟩,hG _ _ _ _ (zbU hb) hv⟩
  ·exact ⟨es1,c1,((MapKept.heap_set (o':=Obj.map (es.push { key:=k,val:=v,born:=c }) (c + 1)) hb).2 k' hkm).trans hk',fun e he => .inl he,fun e he => ⟨e,he,rfl⟩⟩
 ·have hes2:∀ e' ∈ (es.modify j fun e => { e with key:=k,val:=v }).toList,e' ∈ es.toList ∨ (e'.key=k ∧ e'.val=v):=by
   intro e' he';rw [Array.toList_modify] at he';obtain ⟨i,hi⟩:=List.mem_iff_getElem?.1 he';rw [List.getElem?_modify] at hi;obtain ⟨x,hx,hxe⟩:=Option.map_eq_some_iff.1 hi;by_cases hij:j=i
   ·rw [if_pos hij] at hxe; subst hxe; exact .inr ⟨rfl,rfl⟩
   ·rw [if_neg hij] at hxe; subst hxe; exact .inl (List.mem_of_getElem? hx)
  have hes3:∀ (i:Nat) (x:MapEntry),es.toList[i]? = some x → ∃ x':MapEntry,(es.modify j fun e => { e with key:=k,val:=v }).toList[i]? = some x' ∧ x'.key=x.key:=by
   intro i x hx;rw [Array.toList_modify,List.getElem?_modify,hx];by_cases hij:j=i
   ·subst hij;rw [hx] at he;cases he;exact ⟨{ e with key:=k,val:=v },by simp,hek.symm⟩
   ·exact ⟨x,by simp [hij],rfl⟩
  have hhas:∀ x ∈ es.toList,∃ x' ∈ (es.modify j fun e => { e with key:=k,val:=v }).toList,x'.key=x.key:=by intro x hx;obtain ⟨i,hi⟩:=List.mem_iff_getElem?.1 hx;obtain ⟨x',h1,h2⟩:=hes3 i x hi;exact ⟨x',List.mem_of_getElem? h1,h2⟩
  refine ⟨_,zdP K hT hb hk hf (by rw [← Array.getElem?_toList]; exact he) hek,⟨zbU hb,fun k' es1 c1 hk' => ?_⟩,?_,fun W0 hM hW => hM.setHeap (.inr hW) _⟩
  ·by_cases hkm:k'=mb
   ·subst hkm;rw [hb] at hk';cases hk';refine ⟨_,_,zae hb,fun e he => ?_,hhas⟩;rcases hes2 e he with h1 | ⟨h1,h2⟩
    ·exact .inl h1
    ·exact .inr (by rw [h1,h2]; exact ⟨⟨l,hk⟩,hG _ _ _ _ (zbU hb) hv⟩)
   ·exact ⟨es1,c1,((MapKept.heap_set (o':=Obj.map (es.modify j fun e => { e with key:=k,val:=v }) c) hb).2 k' hkm).trans hk',fun e he => .inl he,fun e he => ⟨e,he,rfl⟩⟩
  ·obtain ⟨x',h1,h2⟩:=hhas e (List.mem_of_getElem? he);exact ⟨_,_,zae hb,x',h1,h2.trans hek⟩
theorem zjm {P:Program} {T kt et:TypeId} (K:Keyed P kt) (hT:P.underlying T=some (.map kt et)) {G:Value → Value → World → Prop} {w:World} {mb:Nat} (h:MapGood P kt G w mb) {k:Value} {l:Lit} (hk:keyOf P kt k=some l) {z:Value} (hz:∀ w,(zeroValue et).run P w = .ok z w) :
  (∃ v,(Instr.lookup T (.map (some mb)) k true).run P w = .ok (.tuple #[v,.bool true]) w ∧ G k v w) ∨ ((Instr.lookup T (.map (some mb)) k true).run P w = .ok (.tuple #[z,.bool false]) w ∧ ¬ MapHas w mb k):=by
 obtain ⟨es,c,hb,hes⟩:=h;have hc:(Instr.checkKey es.isEmpty 10000 kt k).run P w = .ok () w:=K.check w _ hk;rcases K.find w hk es.toList (fun e he => (hes e he).1) with ⟨hf,hn⟩ | ⟨j,e,hf,he,hek⟩
 ·refine .inr ⟨by simp [Instr.lookup,run_underlying hT,MapKept.run_getObj_map hb,hc,hf,hz,Result.andThen],?_⟩;rintro ⟨es1,c1,h1,e,h2,h3⟩;rw [hb] at h1;cases h1;exact hn e h2 h3
 ·refine .inl ⟨e.val,by simp [Instr.lookup,run_underlying hT,MapKept.run_getObj_map hb,hc,hf,Result.andThen],?_⟩;have:=(hes e (List.mem_of_getElem? he)).2;rw [hek] at this;exact this
end Go.Proofs.YtcabeljiobiojaaGreatDoor
