/-
  The right rows by their keys: one more row is laid under its key. No condition.
-/
import Derived.Test.YtcabeljiobiojaaGreatDoorQ48
import Derived.Test.YtcabeljiobiojaaGreatDoorQ41
set_option linter.unusedVariables false
set_option maxRecDepth 100000
set_option maxHeartbeats 8000000
namespace Go.Proofs.YtcabeljiobiojaaGreatDoor
open Go.RowKit
theorem CA {p:Prop} (h:p:=by simpa using hm):p:=h
theorem BX {p:Prop} (h:p:=by rw [List.mem_singleton.1 hy]; exact List.mem_cons_self):p:=h
open Go.Maps
theorem ztm {out:TbL} {n i:Nat} (hl:out.length=n) (hi:i < n) (e:V × List PR):kx (out ++ [e]) i=kx out i ∧ rxs (out ++ [e]) i=rxs out i:=by unfold kx rxs;rw [List.getD_eq_getElem?_getD,List.getD_eq_getElem?_getD,List.getElem?_append_left BS];exact ⟨rfl,rfl⟩
theorem ztk {out:TbL} {n:Nat} (hl:out.length=n) (e:V × List PR):kx (out ++ [e]) n=e.1 ∧ rxs (out ++ [e]) n=e.2:=by unfold kx rxs;rw [List.getD_eq_getElem?_getD,List.getElem?_append_right BS,hl,Nat.sub_self];exact ⟨rfl,rfl⟩
theorem ztd {out:TbL} {n j i:Nat} (hl:out.length=n) (hj:j < n) (e:V × List PR):(i ≠ j → kx (out.set j e) i=kx out i ∧ rxs (out.set j e) i=rxs out i) ∧ kx (out.set j e) j=e.1 ∧ rxs (out.set j e) j=e.2:=by
 unfold kx rxs;refine ⟨fun h => ?_,?_⟩
 ·rw [List.getD_eq_getElem?_getD,List.getD_eq_getElem?_getD,List.getElem?_set_ne (Ne.symm h)];exact ⟨rfl,rfl⟩
 ·rw [List.getD_eq_getElem?_getD,List.getElem?_set_self BS];exact ⟨rfl,rfl⟩
theorem TB.new {L:List Nat} {w0 wr wb w9:World} {mb:Nat} {rv:Nat → Value} {out:TbL} {n:Nat} (h:TB L w0 wr mb rv out n) {x:V} (hx:okV x) (hnew:∀ i,i < n → kx out i ≠ x) {z:Value} {p:PR} {g cap:Nat} (hMb:Mods [mb] wr wb) (hb:wb.heap[mb]? = some (.map ((zte rv out n).push ⟨.agg (zs5 x),z,n⟩) (n + 1)))
  (hown:w9.ownsRow 0 131 2 (.slice (some ⟨g,0,none⟩) 1 cap) 1 (zth [p])) (hM9:Mods [] wb w9) (hg:wb.heap.size ≤ g) :
  TB L w0 (setHeap w9 mb (.map (((zte rv out n).push ⟨.agg (zs5 x),z,n⟩).modify n fun e => { e with val:=.slice (some ⟨g,0,none⟩) 1 cap }) (n + 1))) mb (updN rv n (.slice (some ⟨g,0,none⟩) 1 cap)) (out ++ [(x,[p])]) (n + 1):=by
 have hl:=h.len;have hs0:=h.mods.size;have hsb:=hMb.size;have hmb:=zj h.map;have h9:=hM9.heap hb;have hMs:Mods [mb] w9 (setHeap w9 mb (.map (((zte rv out n).push ⟨.agg (zs5 x),z,n⟩).modify n fun e => { e with val:=.slice (some ⟨g,0,none⟩) 1 cap }) (n + 1))):=(QM _ _).setHeap (.inl BU) _;have harr:(((zte rv out n).push ⟨.agg (zs5 x),z,n⟩).modify n fun e => { e with val:=.slice (some ⟨g,0,none⟩) 1 cap })=zte (updN rv n (.slice (some ⟨g,0,none⟩) 1 cap)) (out ++ [(x,[p])]) (n + 1):=by
  rw [← zuf rv out hl x [p]];refine ztE BU fun i hi => ?_;rw [Array.getElem?_modify,Array.getElem?_push,Array.getElem?_push,zs3];by_cases hin:n=i
  ·subst hin; simp
  ·rw [if_neg hin,if_neg (Ne.symm hin),if_neg (Ne.symm hin)]
 have hrt:∀ i,i < n → ∀ x,(rv i).ownBlock=some x → x < wr.heap.size:=fun i hi x hx => ((h.rows i hi).lt x hx).2;refine ⟨by rw [List.length_append,hl]; rfl,h.low,((h.mods.trans hMb (fun y hy => .inl BX)).trans hM9).trans hMs (fun y hy => .inl BX),h.mbl,?_,fun i hi => ?_,fun i j hi hj e => ?_,fun i hi => ?_,fun i hi y hy => ?_⟩
 ·rw [← harr]; exact zae h9
 ·by_cases hin:i=n
  ·rw [hin,(ztk hl _).1]; exact hx
  ·rw [(ztm hl BS _).1]; exact h.ok i BS
 ·by_cases hin:i=n
  ·by_cases hjn:j=n
   ·omega
   ·rw [hin,(ztk hl _).1,(ztm hl BS _).1] at e;exact absurd e.symm (hnew j BS)
  ·by_cases hjn:j=n
   ·rw [hjn,(ztk hl _).1,(ztm hl BS _).1] at e;exact absurd e (hnew i BS)
   ·rw [(ztm hl BS _).1,(ztm hl BS _).1] at e;exact h.inj i j BS BS e
 ·by_cases hin:i=n
  ·rw [hin,(ztk hl _).2,zrW]
   exact zm hown hMs (fun y hy hm => by
    obtain rfl:g=y:=by simpa [Value.ownBlock] using hy
    have:g=mb:=by simpa using hm
    omega)
  ·rw [(ztm hl BS _).2,zrV _ _ hin];have hne:∀ y,(rv i).ownBlock=some y → y ∉ [mb]:=fun y hy => by simpa using (h.rb i BS y hy).2.1
   exact zm (zm (zm (h.rows i BS) hMb hne) hM9 BU) hMs hne
 ·by_cases hin:i=n
  ·rw [hin,zrW] at hy;obtain rfl:g=y:=by simpa [Value.ownBlock] using hy
   refine ⟨by omega,by omega,fun j hj e => ?_⟩;by_cases hjn:j=n
   ·omega
   ·rw [zrV _ _ hjn] at e;have:=hrt j BS g e;omega
  ·rw [zrV _ _ hin] at hy;refine ⟨(h.rb i BS y hy).1,(h.rb i BS y hy).2.1,fun j hj e => ?_⟩;by_cases hjn:j=n
   ·rw [hjn,zrW] at e;obtain rfl:g=y:=by simpa [Value.ownBlock] using e
    have:=hrt i BS g hy;omega
   ·rw [zrV _ _ hjn] at e;exact (h.rb i BS y hy).2.2 j BS e
theorem TB.old {L:List Nat} {w0 wr wb w9:World} {mb:Nat} {rv:Nat → Value} {out:TbL} {n:Nat} (h:TB L w0 wr mb rv out n) {x:V} {j:Nat} (hj:j < n) (hx:kx out j=x) {p:PR} {g cap m:Nat} (hm:(rxs out j).length=m) (hMb:Mods [mb] wr wb) (hb:wb.heap[mb]? = some (.map (zte rv out n) n))
  (hown:w9.ownsRow 0 131 2 (.slice (some ⟨g,0,none⟩) (m + 1) cap) (m + 1) (zth (rxs out j) ++ zth [p])) (hM9:Mods (rv j).ownBlock.toList wb w9) (hg:(rv j).ownBlock=some g ∨ wb.heap.size ≤ g) :
  TB L w0 (setHeap w9 mb (.map ((zte rv out n).modify j fun e => { e with val:=.slice (some ⟨g,0,none⟩) (m + 1) cap }) n)) mb (updN rv j (.slice (some ⟨g,0,none⟩) (m + 1) cap)) (out.set j (x,rxs out j ++ [p])) n:=by
 have hl:=h.len;have hs0:=h.mods.size;have hsb:=hMb.size;have hmb:=zj h.map;have hkm:∀ y,y ∈ (rv j).ownBlock.toList → (rv j).ownBlock=some y:=fun y hy => by simpa using hy
 have h9:=hM9.heap hb (fun hmm => (h.rb j hj _ (hkm _ hmm)).2.1 rfl);have hMs:Mods [mb] w9 (setHeap w9 mb (.map ((zte rv out n).modify j fun e => { e with val:=.slice (some ⟨g,0,none⟩) (m + 1) cap }) n)):=(QM _ _).setHeap (.inl BU) _;have hrt:∀ i,i < n → ∀ x,(rv i).ownBlock=some x → x < wr.heap.size:=fun i hi x hx => ((h.rows i hi).lt x hx).2;have hgg:w0.heap.size ≤ g ∧ g ≠ mb ∧ ∀ i,i < n → (rv i).ownBlock=some g → i=j:=by
  rcases hg with hg | hg
  ·exact h.rb j hj g hg
  ·exact ⟨by omega,by omega,fun i hi e => by have:=hrt i hi g e; omega⟩
 refine ⟨by rw [List.length_set,hl],h.low,((h.mods.trans hMb (fun y hy => .inl BX)).trans hM9 (fun y hy => .inr (h.rb j hj y (hkm y hy)).1)).trans hMs (fun y hy => .inl BX),h.mbl,?_,fun i hi => ?_,fun i k hi hk e => ?_,fun i hi => ?_,fun i hi y hy => ?_⟩
 ·rw [← hx,← zus rv out hj hl]; exact zae h9
 ·by_cases hij:i=j
  ·rw [hij,(ztd (i:=j) hl hj _).2.1,← hx]; exact h.ok j hj
  ·rw [((ztd hl hj _).1 hij).1]; exact h.ok i hi
 ·have hk2:∀ i,i < n → kx (out.set j (x,rxs out j ++ [p])) i=kx out i:=fun i hi => by
   by_cases hij:i=j
   ·rw [hij,(ztd (i:=j) hl hj _).2.1,hx]
   ·exact ((ztd hl hj _).1 hij).1
  rw [hk2 i hi,hk2 k hk] at e;exact h.inj i k hi hk e
 ·by_cases hij:i=j
  ·rw [hij,(ztd (i:=j) hl hj _).2.2,zrW,List.length_append,hm];have e:zth (rxs out j ++ [p])=zth (rxs out j) ++ zth [p]:=by simp [zth]
   rw [e]
   exact zm hown hMs (fun y hy hmm => by
    obtain rfl:g=y:=by simpa [Value.ownBlock] using hy
    exact hgg.2.1 (by simpa using hmm))
  ·rw [((ztd hl hj _).1 hij).2,zrV _ _ hij];have hne:∀ y,(rv i).ownBlock=some y → y ∉ [mb]:=fun y hy => by simpa using (h.rb i hi y hy).2.1
   exact zm (zm (zm (h.rows i hi) hMb hne) hM9 (fun y hy hmm => hij ((h.rb j hj y (hkm y hmm)).2.2 i hi hy))) hMs hne
 ·by_cases hij:i=j
  ·rw [hij,zrW] at hy;obtain rfl:g=y:=by simpa [Value.ownBlock] using hy
   refine ⟨hgg.1,hgg.2.1,fun k hk e => ?_⟩;by_cases hkj:k=j
   ·omega
   ·rw [zrV _ _ hkj] at e;have:=hgg.2.2 k hk e;omega
  ·rw [zrV _ _ hij] at hy;refine ⟨(h.rb i hi y hy).1,(h.rb i hi y hy).2.1,fun k hk e => ?_⟩;by_cases hkj:k=j
   ·rw [hkj,zrW] at e;obtain rfl:g=y:=by simpa [Value.ownBlock] using e
    have:=hgg.2.2 i hi hy;omega
   ·rw [zrV _ _ hkj] at e;exact (h.rb i hi y hy).2.2 k hk e
theorem ztz:∀ (a j:Nat),j < a * 3 → (zph (List.replicate a zeroV0))[j]? = some (zV3.cells[j % 3]!)
 | 0,j,h => by omega
 | a + 1,j,h => by
  have e:zph (List.replicate (a + 1) zeroV0)=[.bool false,.int .i64 0,.string ⟨#[]⟩] ++ zph (List.replicate a zeroV0):=rfl;rw [e];by_cases hj:j < 3
  ·rw [List.getElem?_append_left (by simpa using hj)];have h3:j=0 ∨ j=1 ∨ j=2:=by omega
   rcases h3 with rfl | rfl | rfl <;> rfl
  ·rw [List.getElem?_append_right BY];have:=ztz a (j - 3) BS;rw [show (j - 3) % 3=j % 3 by omega] at this;exact this
theorem zuu (a n:Nat) (h:a ≤ n):(mkC n).toList.take (a * 3)=zph (List.replicate a zeroV0):=by
 refine List.ext_getElem? fun j => ?_;by_cases hj:j < a * 3
 ·rw [ztz a j hj,List.getElem?_take_of_lt hj];unfold mkC madeCells;have hn:j < n * 3:=by omega
  simp [hn];rfl
 ·rw [List.getElem?_eq_none (by rw [List.length_take]; omega),List.getElem?_eq_none (by rw [zpR,List.length_replicate]; omega)]
theorem ztV (w:World) (a n:Nat) (h:a ≤ n) (hn:n ≤ 1000):(w.alloc (.cells (mkC n) 35)).ownsRow 0 35 3 (.slice (some ⟨w.heap.size,0,none⟩) a n) a (zph (List.replicate a zeroV0)):=
 ⟨by rw [zpR,List.length_replicate],.inr ⟨w.heap.size,n,mkC n,rfl,Nat.zero_le _,QN w _,h,by unfold maxLen; omega,size_madeCells _ _,zuu a n h⟩⟩
def zs4 (a:Nat) (r:List V):List V:=List.replicate a zeroV0 ++ r
def FiltG (w:World) (rb pb:Nat) (rs:List (List V)) (e:Ending) (w':World):Prop:=∃ t,e = .returned t ∧ Mods [rb] w w' ∧ RunAt w' rb pb ∧ RowsC w w' t rs
theorem ztC (w:World) (rb pb:Nat) (hR0:RunAt w rb pb) (ao:Option Addr) (cap:Nat) (vc:Value) (rs:List (List V)) (n:Nat) (hn:rs.length=n) (hI:RowsIn w ao rs [rb]) (hF:zpp rs) (a:Nat) (ha:a ≤ 100) (B:List V → Bool)
  (hh:∀ W,Mods [rb] w W → RunAt W rb pb → ∀ u r,r ∈ rs → RowU W [rb] u (zs4 a r) → Calls Tryz.prog 41 #[zh rb,vc,u] W fun e w' => e = .returned (.bool (B (zs4 a r))) ∧ Mods [rb] W w' ∧ RunAt w' rb pb) :
  Calls Tryz.prog 35 #[zh rb,.slice ao n cap,.int .i64 (a:Nat),vc] w (FiltG w rb pb ((rs.map (zs4 a)).filter B)):=by
 obtain ⟨PP,hPP⟩:=EX (FiltG w rb pb ((rs.map (zs4 a)).filter B));rw [hPP];have hn1:n ≤ 1000:=by rw [← hn]; exact hF.1
 have hrl:=zj hR0;have HH:=QH (AI hPP (AI hI (AI hF (AI hn (AI hh (AI hR0 hrl))))));clear hI hF hn hPP hh hR0 hrl;obtain ⟨i0,hi,hz0,hz1,hz2⟩:=info_parts zqG;obtain ⟨j0,hj,hj0,hj1,hj2⟩:=info_parts (show (Tryz.prog.info? 37).map (fun i => (i.zero,i.size,i.bytes))=some (some (.slice none 0 0),1,24) by kernel_rfl);have HU:=QH (AI hi (AI hz0 (AI hz1 (AI hz2 (AI hj (AI hj0 (AI hj1 hj2)))))));clear hi hz0 hz1 hz2 hj hj0 hj1 hj2;unfold zh;go_enter Tryz.func35, Tryz.ntmps35;go_wp2_with fail;go_loopg [8,13] n (fun gk t8 t13 wr => ∃ i:Nat,i + gk=n ∧ t13 = .int .i64 i ∧ Mods [rb] w wr ∧ RunAt wr rb pb ∧ RowsC w wr t8 (((rs.take i).map (zs4 a)).filter B))
 case atStart => exact ⟨0,by omega,rfl,QM _ _,HH.out.2.2.2.2.2.1,RowsC.start w⟩
 obtain ⟨i,hin,rfl,hM,hRr,hC⟩:=hrel;by_cases hlt:i < n
 ·have hil:i < rs.length:=by rw [HH.out.2.2.2.1]; exact hlt
  obtain ⟨b,off,rfl,hbr,hcs⟩:=HH.out.2.1 (fun h0 => by rw [h0] at hil; simp at hil);obtain ⟨vo,c,hc,k0,hV⟩:=hcs i hil;have hf:=HH.out.2.2.1.2 rs[i] (List.getElem_mem hil);have htk:rs.take (i + 1)=rs.take i ++ [rs[i]]:=List.take_succ_eq_append_getElem hil;have hlen:(((rs.take i).map (zs4 a)).filter B).length ≤ i:=by refine Nat.le_trans (List.length_filter_le _ _) ?_;rw [List.length_map,List.length_take]; omega
  have hmem:=List.getElem_mem hil;generalize rs[i]=r at *;obtain ⟨m,hm⟩:=EX (r.length);rw [hm] at k0 hf hc;obtain ⟨tb,vof,rfl,hbt,hvs⟩:=hV (fun h0 => by rw [h0] at hm; simp at hm; omega);replace k0:=hM.cell k0 (by simpa using hbr);have hm1:0 < m ∧ m ≤ 100:=hf;have hmk:∀ W,(Instr.makeSlice 37 (.int .i64 (a:Nat)) (.int .i64 ((a:Int) + (m:Int)))).run Tryz.prog W = .ok (.slice (some ⟨W.heap.size,0,none⟩) a (a + m)) (W.alloc (.cells (mkC (a + m)) 35)):=fun W => by have:=zqH W a (a + m) BS BS;simpa using this
  have hcv:=zpX hvs;have hma:=(QM [] wr).alloc (.cells (mkC (a + m)) 35);have hown:=ztV wr a (a + m) BS BS;have hlit:∀ j u,(zph r)[j]? = some u → (wr.alloc (.cells (mkC (a + m)) 35)).cell? ((⟨tb,vof,none⟩ : Addr).add j)=some u:=fun j u hj => by rw [zci];exact hma.cell (hM.cell (hcv j u hj) (by simpa using hbt))
  have HR:=QH (AI hM (AI hC (AI htk (AI hlen (AI hm (AI hma (AI hown (AI hlit (AI hmem hRr)))))))));clear hM hC htk hlen hcs hc hV hf hvs hcv hma hown hlit hm hil hmem hRr hbt hbr;obtain ⟨hi,hz0,hz1,hz2,hj,hj0,hj1,hj2⟩:=HU.out;have ham:¬ (a:Int) + (m:Int) < 0:=by omega
  go_wp2_with (at_builtin; refine zw _ rfl _ _ 37 rfl 35 i0 _ 3 32 Tryz.underlying37 hi hz0 hz1 hz2 rfl BW (.slice (some ⟨wr.heap.size,0,none⟩) a (a + m)) a (zph (List.replicate a zeroV0)) rfl HR.out.2.2.2.2.2.2.1 ⟨tb,vof,none⟩ m c (zph r) rfl ?a1 ?a2 ?a3 ?a4 ?a5 ?a6 ?_)
  case a1 => rw [zpR,HR.out.2.2.2.2.1]
  case a2 =>intro j u hj;have:=HR.out.2.2.2.2.2.2.2.1 j u hj;rw [zci] at this;exact this
  case a3 => exact zqn r
  case a5 => unfold maxLen; omega
  case a6 => omega
  intro g cap2 w2 hown2 hM2 hg2;obtain ⟨hM,hC,htk,hlen,hm,hma,-,-,hmem,hRr⟩:=HR.out;have hrl:=HH.out.2.2.2.2.2.2;have hs:=hM.size;have hgl:wr.heap.size ≤ g:=by
   rcases hg2 with h | h
   ·have:wr.heap.size=g:=by simpa [Value.ownBlock] using h
    omega
   ·omega
  have hMr:Mods [] wr w2:=hma.trans hM2 (fun x hx => .inr (by
   have:x=wr.heap.size:=by simpa [Value.ownBlock] using hx
   omega))
  have hmc:=(zar hown2).2.1;have hap:zph (List.replicate a zeroV0) ++ zph r=zph (zs4 a r):=by unfold zs4 zph; rw [List.flatMap_append]
  rw [hap] at hown2;have hpl:(zs4 a r).length=a + m:=by unfold zs4; rw [List.length_append,List.length_replicate,hm]
  have hR2:=hRr.mods hMr BU;have hval:∀ L:List Nat,g ∉ L → ValsIn w2 (some ⟨g,0,none⟩) (zs4 a r) L:=fun L hL => zqe hpl hown2 hL;have hcall:=HH.out.2.2.2.2.1 w2 (hM.trans hMr) hR2 (.slice (some ⟨g,0,none⟩) (a + m) cap2) r hmem ⟨_,cap2,by rw [hpl],by rw [hpl]; exact hmc,hval [rb] BY⟩;unfold zh at hcall;have hfl:((rs.take (i + 1)).map (zs4 a)).filter B=((rs.take i).map (zs4 a)).filter B ++ (if B (zs4 a r)=true then [zs4 a r] else []):=by
   rw [htk,List.map_append,List.filter_append];congr 1;by_cases hb:B (zs4 a r)=true
   ·simp [hb]
   ·simp [hb]
  obtain ⟨D,hD⟩:=EX (B (zs4 a r));rw [hD] at hcall hfl;have hlt8:∀ x,u8.ownBlock=some x → x < wr.heap.size:=fun x hx => by obtain ⟨css',hrow',-⟩:=hC.row;exact (hrow'.lt x hx).2
  have HC2:=QH (AI hM (AI hC (AI hMr (AI hval (AI hlt8 (AI hfl (AI hpl (AI hmc (AI hgl (AI hlen (AI hrl hs)))))))))));clear hM hC htk hlen hm hma hmem hRr hrl hs hgl hMr hmc hap hpl hR2 hval hfl hD hlt8 hown2 hM2 hg2;go_wp2_with fail;(with_reducible refine hcall.mono ?_);rintro e w3 ⟨rfl,hM3,hR3⟩;clear hcall;obtain ⟨hM,hC,hMr,hval,hlt8,hfl,hpl,hmc,hgl,hlen,hrl,hs⟩:=HC2.out;have hM03:Mods [rb] wr w3:=(hMr.mono (L':=[rb])).trans hM3 (fun x hx => .inl hx);have hCw3:=hC.later hM03 (fun x hx => by simp at hx; omega);have hMw3:=hM.trans hM03 (fun x hx => .inl hx);have hsz2:=hMr.size
  cases D with
  | false =>
   rw [if_neg BW,List.append_nil] at hfl;have HA:=QH (AI hMw3 (AI hR3 (show RowsC w w3 u8 (((rs.take (i + 1)).map (zs4 a)).filter B) by rw [hfl]; exact hCw3)));clear hM hC hMr hval hlt8 hfl hpl hmc hgl hlen hrl hs hM03 hCw3 hMw3 hM3 hR3 hsz2 hi hz0 hz1 hz2 hj hj0 hj1 hj2;go_wp2_with fail;go_roundg (n - (i + 1))
   case measure => omega
   case rel => exact ⟨i + 1,by omega,by go_num,HA.out.1,HA.out.2.1,HA.out.2.2⟩
  | true =>
   rw [if_pos rfl] at hfl;have hMl:=(QM [] w3).alloc (.cells #[.slice (some ⟨g,0,none⟩) (a + m) cap2] 37);have hC3:=hCw3.later hMl BU;obtain ⟨css,hrow,hall⟩:=hC3.row;have hr:∀ L:List Nat,(∀ x ∈ L,x < w.heap.size ∨ u8.ownBlock=some x) → RowR (w3.alloc (.cells #[.slice (some ⟨g,0,none⟩) (a + m) cap2] 37)) L [.slice (some ⟨g,0,none⟩) (a + m) cap2] (zs4 a r):=fun L hL => by
    have hgL:g ∉ L:=fun hx => by
     rcases hL g hx with h | h
     ·omega
     ·have:=hlt8 g h;omega
    refine ⟨some ⟨g,0,none⟩,cap2,by rw [hpl],by rw [hpl]; exact hmc,?_⟩;have:=(hval (rb :: L) (by simp; exact ⟨by omega,hgL⟩)).mods (hM3.mono);exact (this.weaken (fun x hx => CM _ hx)).mods (hMl.mono)
   have hlit2:=zdy w3 #[.slice (some ⟨g,0,none⟩) (a + m) cap2] 37;obtain ⟨q,hq⟩:=EX ((((rs.take i).map (zs4 a)).filter B).length);rw [hq] at hrow hlen;have hR4:=hR3.mods hMl BU;have HW:=QH (AI hC3 (AI hrow (AI hall (AI hr (AI hlit2 (AI (hMw3.trans hMl) (AI hq (AI hR4 (AI hfl hrl)))))))));clear hM hC hMr hval hlt8 hpl hmc hgl hrl hs hM03 hCw3 hMw3 hM3 hR3 hsz2 hMl hC3 hrow hall hr hlit2 hq hR4 hfl;go_wp2_with (at_builtin; refine zw _ rfl _ _ 24 rfl 37 j0 _ 1 24 Tryz.underlying24 hj hj0 hj1 hj2 rfl BW u8 q css.flatten rfl HW.out.2.1 ⟨w3.heap.size,0,none⟩ 1 1 [.slice (some ⟨g,0,none⟩) (a + m) cap2] rfl rfl ?b2 ?b3 BW ?b5 ?b6 ?_)
   case b2 => exact HW.out.2.2.2.2.1
   case b3 => intro u hu; simp at hu; subst hu; rfl
   case b5 => unfold maxLen; omega
   case b6 => omega
   have gGq:=QH trivial;exact yfY
 ·obtain rfl:n=i:=by omega
  rw [List.take_of_length_le (by rw [HH.out.2.2.2.1]; exact LR _)] at hC;have hfin:PP (.returned u8) wr:=by rw [← HH.out.1];exact ⟨_,rfl,hM,hRr,hC⟩
  have HFIN:=QH hfin;clear hfin hM hC hRr;go_wp2_with fail;exact HFIN.out
open Go.Maps
theorem ztW (w:World):Calls Tryz.prog 40 #[.slice none 0 0,.slice none 0 0] w fun e w' => e = .returned (.bool true) ∧ Mods [] w w':=by
 go_enter Tryz.func40, Tryz.ntmps40;go_upto_region 4 with fail;go_loopg [13] 0 (fun gk t13 wr => gk=0 ∧ t13 = .int .i64 0 ∧ w=wr)
 case atStart => exact ⟨rfl,rfl,rfl⟩
 obtain ⟨rfl,rfl,rfl⟩:=hrel;go_wp2_with fail;go_ret;exact ⟨rfl,QM _ _⟩
theorem ztX (w:World):(w.alloc (.cells #[] 35)).ownsRow 0 35 3 (.slice (some ⟨w.heap.size,0,none⟩) 0 0) 0 []:=
 ⟨rfl,.inr ⟨w.heap.size,0,#[],rfl,Nat.zero_le _,QN w _,LR _,by unfold maxLen; omega,rfl,rfl⟩⟩
theorem ztY (w:World) (vo:Option Addr) (m cap:Nat) (r:List V) (hm:r.length=m) (h1:0 < m ∧ m ≤ 100) (hc:m ≤ cap) (hV:ValsIn w vo r []) :
  Calls Tryz.prog 39 #[.slice vo m cap] w fun e w' => ∃ g cap2,e = .returned (.slice (some ⟨g,0,none⟩) m cap2) ∧ Mods [] w w' ∧ w.heap.size ≤ g ∧ w'.ownsRow 0 35 3 (.slice (some ⟨g,0,none⟩) m cap2) m (zph r):=by
 obtain ⟨i0,hi,hz0,hz1,hz2⟩:=info_parts zqG;obtain ⟨tb,vof,rfl,hbt,hvs⟩:=hV (fun h0 => by rw [h0] at hm; simp at hm; omega);have hcv:=zpX hvs;have hma:=(QM [] w).alloc (.cells #[] 35);have hown:=ztX w;have hlit:∀ j u,(zph r)[j]? = some u → (w.alloc (.cells #[] 35)).cell? ⟨tb,vof + j,none⟩ = some u:=fun j u hj => hma.cell (hcv j u hj);have hE:(binOp .eql 37 (.slice (some ⟨tb,vof,none⟩) m cap) (.slice none 0 0)).run Tryz.prog w = .ok (.bool false) w:=by
  have h:∀ d:Nat,(Op.equalIn (d + 1) 37 (.slice (some ⟨tb,vof,none⟩) m cap) (.slice none 0 0)).run Tryz.prog w = .ok false w:=fun d => by simp [Op.equalIn,run_underlying Tryz.underlying37]
  simp only [binOp];simp [Op.equal,Op.maxDepth,h 9999]
 have HR:=QH (AI hm (AI hma (AI hown hlit)));clear hV hbt hvs hcv hma hown hlit hm;go_enter Tryz.func39, Tryz.ntmps39;go_wp2_with (at_builtin; refine zw _ rfl _ _ 37 rfl 35 i0 _ 3 32 Tryz.underlying37 hi hz0 hz1 hz2 rfl BW (.slice (some ⟨w.heap.size,0,none⟩) 0 0) 0 [] rfl HR.out.2.2.1 ⟨tb,vof,none⟩ m cap (zph r) rfl ?a1 ?a2 ?a3 ?a4 ?a5 ?a6 ?_)
 case a1 => rw [zpR,HR.out.1]
 case a2 => intro j u hj; rw [zci]; exact HR.out.2.2.2 j u hj
 case a3 => exact zqn r
 case a4 => exact h1.1
 case a5 => unfold maxLen; omega
 case a6 => omega
 intro g cap2 w2 hown2 hM2 hg2;have hgl:w.heap.size ≤ g:=by
  rcases hg2 with h | h
  ·have:w.heap.size=g:=by simpa [Value.ownBlock] using h
   omega
  ·omega
 have hMr:Mods [] w w2:=HR.out.2.1.trans hM2 (fun x hx => .inr (by
  have:x=w.heap.size:=by simpa [Value.ownBlock] using hx
  omega))
 have HF:=QH (AI hMr (AI hgl hown2));clear hMr hgl hown2 hM2 hg2;go_wp2_with fail;go_ret;exact ⟨g,cap2,rfl,HF.out⟩
open Go.Maps
def Under (out:TbL) (n:Nat) (x:V) (ps:List PR):Prop:=(∀ i,i < n → kx out i=x → rxs out i=ps) ∧ ((∀ i,i < n → kx out i ≠ x) → ps=[])
theorem ztZ (x:V):Under [] 0 x []:=⟨fun i h => absurd h (Nat.not_lt_zero i),fun _ => rfl⟩
theorem zt0 {out:TbL} {n:Nat} (hl:out.length=n) {f:V → List PR} (h:∀ y,Under out n y (f y)) {x:V} (hnew:∀ i,i < n → kx out i ≠ x) (p:PR) (y:V):Under (out ++ [(x,[p])]) (n + 1) y (f y ++ if x=y then [p] else []):=by
 refine ⟨fun i hi e => ?_,fun hy => ?_⟩
 ·by_cases hin:i=n
  ·subst hin;rw [(ztk hl _).1] at e;rw [(ztk hl _).2,if_pos e,← e,(h x).2 hnew];rfl
  ·rw [(ztm hl BS _).1] at e;rw [(ztm hl BS _).2,(h y).1 i BS e,if_neg (fun hxy => hnew i BS (by rw [e,hxy])),List.append_nil]
 ·have h1:=hy n BS;rw [(ztk hl _).1] at h1;rw [if_neg h1,List.append_nil];exact (h y).2 fun i hi => by
   have:=hy i BS
   rwa [(ztm hl hi _).1] at this
theorem zt1 {out:TbL} {n j:Nat} (hl:out.length=n) {f:V → List PR} (h:∀ y,Under out n y (f y)) {x:V} (hj:j < n) (hx:kx out j=x) (hinj:∀ i k,i < n → k < n → kx out i=kx out k → i=k) (p:PR) (y:V):Under (out.set j (x,rxs out j ++ [p])) n y (f y ++ if x=y then [p] else []):=by
 refine ⟨fun i hi e => ?_,fun hy => ?_⟩
 ·by_cases hij:i=j
  ·subst hij;rw [(ztd (i:=i) hl hj _).2.1] at e;rw [(ztd (i:=i) hl hj _).2.2,if_pos e,(h y).1 i hi (by rw [hx]; exact e)]
  ·rw [((ztd hl hj _).1 hij).1] at e;rw [((ztd hl hj _).1 hij).2,(h y).1 i hi e,if_neg (fun hxy => hij (hinj i j hi hj (by rw [e,hx,hxy]))),List.append_nil]
 ·have h1:=hy j hj;rw [(ztd (i:=j) hl hj _).2.1] at h1;rw [if_neg h1,List.append_nil];exact (h y).2 fun i hi => by
   by_cases hij:i=j
   ·subst hij; rw [hx]; exact h1
   ·have:=hy i hi
    rwa [((ztd hl hj _).1 hij).1] at this
theorem ztl (w:World):(zeroValue 129).run Tryz.prog w = .ok (.slice none 0 0) w:=by kernel_rfl
def mapT:TypeId:= 124
theorem zt2 (rv:Nat → Value) (out:TbL) (n:Nat) (x:V) (z:Value):((zte rv out n).push ⟨.agg (zs5 x),z,n⟩).findIdx? (fun e => (e.born:Int) == (n:Int))=some n:=by
 rw [Array.findIdx?_eq_some_iff_getElem];refine ⟨by simp [zs3],by simp [zs3,Array.getElem_push],fun i hi => ?_⟩;have:i < (zte rv out n).size:=by rw [zs3]; exact hi
 rw [Array.getElem_push,dif_pos this];simp [zte];omega
theorem TB.put {L:List Nat} {w0 wr:World} {mb:Nat} {rv:Nat → Value} {out:TbL} {n:Nat} (h:TB L w0 wr mb rv out n) {x:V} (hx:okV x) (p:PR) :
  ∃ z born wb m cs,(Instr.mapEntry mapT (.map (some mb)) (.agg (zs5 x))).run Tryz.prog wr = .ok (.tuple #[z,.int .i64 born]) wb ∧ Mods [mb] wr wb ∧ wb.ownsRow 0 131 2 z m cs ∧ (m=0 ∨ ∃ j,j < n ∧ m=(rxs out j).length) ∧
   (∀ y,z.ownBlock=some y → w0.heap.size ≤ y ∧ y ≠ mb) ∧
   ∀ g cap w9,w9.ownsRow 0 131 2 (.slice (some ⟨g,0,none⟩) (m + 1) cap) (m + 1) (cs ++ zth [p]) → Mods z.ownBlock.toList wb w9 → (z.ownBlock=some g ∨ wb.heap.size ≤ g) →
    ∃ w',(Instr.entryStore mapT (.map (some mb)) (.int .i64 born) (.slice (some ⟨g,0,none⟩) (m + 1) cap)).run Tryz.prog w9 = .ok () w' ∧ Mods [mb] w9 w' ∧
     ∃ rv' out' n',TB L w0 w' mb rv' out' n' ∧ n' ≤ n + 1 ∧ ∀ f:V → List PR,(∀ y,Under out n y (f y)) → ∀ y,Under out' n' y (f y ++ if x=y then [p] else []):=by
 obtain ⟨l,hl⟩:=zts x hx.1 hx.2;rcases h.find wr hx with ⟨hnew,hf⟩ | ⟨j,hj,hkj,hf⟩
 ·have e2:=zeg (T:=mapT) key8_keyed Tryz.underlying124 h.map hl ztl hf;have hMb:Mods [mb] wr (setHeap wr mb (.map ((zte rv out n).push ⟨.agg (zs5 x),.slice none 0 0,n⟩) (n + 1))):=(QM _ _).setHeap (.inl BU) _;have hb:=zae (o':=.map ((zte rv out n).push ⟨.agg (zs5 x),.slice none 0 0,n⟩) (n + 1)) h.map;refine ⟨.slice none 0 0,n,_,0,[],e2,hMb,World.ownsRow_nil _ _ _ _,.inl rfl,fun y hy => absurd (show (none:Option Nat)=some y from hy) BU,fun g cap w9 hown hM9 hg => ?_⟩;have hg2:(setHeap wr mb (.map ((zte rv out n).push ⟨.agg (zs5 x),.slice none 0 0,n⟩) (n + 1))).heap.size ≤ g:=by
   rcases hg with hg | hg
   ·exact nomatch (show (none:Option Nat)=some g from hg)
   ·exact hg
  have hM9':Mods [] (setHeap wr mb (.map ((zte rv out n).push ⟨.agg (zs5 x),.slice none 0 0,n⟩) (n + 1))) w9:=hM9;have hb9:=hM9'.heap hb;exact ⟨_,zcc (P:= Tryz.prog) mapT hb9 (n:Int) _ (zt2 rv out n x _),(QM _ _).setHeap (.inl BU) _,_,_,_,h.new hx hnew hMb hb hown hM9' hg2,LR _,fun f hU => zt0 h.len hU hnew p⟩
 ·have he:=zty rv out hj;have e2:=zeh (T:=mapT) key8_keyed Tryz.underlying124 h.map hl (e:=⟨.agg (zs5 (kx out j)),rv j,j⟩) hf he (by rw [hkj]);rw [zut rv out hj (by rw [hkj])] at e2;have hMb:Mods [mb] wr (setHeap wr mb (.map (zte rv out n) n)):=(QM _ _).setHeap (.inl BU) _;have hb:=zae (o':=.map (zte rv out n) n) h.map;have hne:∀ y,(rv j).ownBlock=some y → w0.heap.size ≤ y ∧ y ≠ mb:=fun y hy => ⟨(h.rb j hj y hy).1,(h.rb j hj y hy).2.1⟩;refine ⟨rv j,j,_,(rxs out j).length,zth (rxs out j),e2,hMb,zm (h.rows j hj) hMb (fun y hy hm => (hne y hy).2 CA),.inr ⟨j,hj,rfl⟩,hne,fun g cap w9 hown hM9 hg => ?_⟩;have hb9:=hM9.heap hb (fun hm => (hne mb CA).2 rfl);exact ⟨_,zcc (P:= Tryz.prog) mapT hb9 (j:Int) _ (zue rv out hj),(QM _ _).setHeap (.inl BU) _,_,_,_,h.old hj hkj rfl hMb hb hown hM9 hg,Nat.le_succ _,fun f hU => zt1 h.len hU hj hkj h.inj p⟩
open Go.Maps
theorem RowsC.read {w1 w:World} {t:Value} {rs:List (List V)} (h:RowsC w1 w t rs) {L:List Nat} (hL:∀ x ∈ L,x < w1.heap.size ∨ w.heap.size ≤ x):∃ ao cap,t = .slice ao rs.length cap ∧ rs.length ≤ cap ∧ RowsIn w ao rs L:=by
 obtain ⟨ao,cap,ht,hc,hg,hat⟩:=h.slice;refine ⟨ao,cap,ht,hc,fun h0 => ?_⟩;obtain ⟨g,hgo,hg1⟩:=hg h0;have hat':=hat (L.filter (fun x => decide (x < w1.heap.size))) (fun x hx => by simpa using (List.mem_filter.1 hx).2) g hgo;refine ⟨g,0,hgo,fun hm => ?_,fun i hi => ?_⟩
 ·obtain ⟨vo,c,-,h2,-⟩:=hat' 0 (List.length_pos_iff.2 h0);have:=zD h2;simp only at this;rcases hL g hm with h | h <;> omega
 ·obtain ⟨vo,c,h1,h2,h3⟩:=hat' i hi;refine ⟨vo,c,h1,by simpa using h2,fun h0' => ?_⟩;obtain ⟨tb,off,e1,e2,e3⟩:=h3 h0';refine ⟨tb,off,e1,fun hm => ?_,e3⟩;rcases hL tb hm with hlt | hge
  ·exact e2 (List.mem_filter.2 ⟨hm,by simpa using hlt⟩)
  ·have:=zD (e3 0 (List.length_pos_iff.2 h0')).1;simp only at this;omega
def zs2 (kL kR:List V → V × Bool) (BT:List V → Bool) (us:List (List V)) (r:List V):List (List V):=
 if (kL r).2=true then ((us.filter fun u => (kR u).2 && decide ((kR u).1=(kL r).1)).map fun u => r ++ u.drop 4).filter BT else []
def joinP (kL kR:List V → V × Bool) (BT:List V → Bool) (ls us:List (List V)):List (List V):=ls.flatMap (zs2 kL kR BT us)
theorem RowsC.baseJ {w w1 wr:World} {t:Value} {rs:List (List V)} (h:RowsC w1 wr t rs) (hs:w.heap.size ≤ w1.heap.size):RowsC w wr t rs:=by obtain ⟨h1,⟨css,h2,h3⟩,h4⟩:=h;exact ⟨Nat.le_trans hs h1,⟨css,h2,fun L hL => h3 L fun x hx => (hL x hx).imp (fun h => LL h hs) id⟩,fun g hg => Nat.le_trans hs (h4 g hg)⟩
theorem ztJ (kL kR:List V → V × Bool) (BT:List V → Bool) (us:List (List V)) (r:List V):(zs2 kL kR BT us r).length ≤ us.length:=by
 unfold zs2;split
 ·refine Nat.le_trans (List.length_filter_le _ _) ?_;rw [List.length_map];exact List.length_filter_le _ _
 ·exact Nat.zero_le _
theorem ztq (kL kR:List V → V × Bool) (BT:List V → Bool) (us:List (List V)) (hu:us.length ≤ 1000):∀ rs:List (List V),(rs.flatMap (zs2 kL kR BT us)).length ≤ rs.length * 1000
 | [] => Nat.zero_le _
 | r :: rs => by rw [List.flatMap_cons,List.length_append,List.length_cons,Nat.succ_mul];have:=ztq kL kR BT us hu rs;have:=ztJ kL kR BT us r;omega
theorem TB.read {L:List Nat} {w0 wr:World} {mb:Nat} {rv:Nat → Value} {out:TbL} {n:Nat} (h:TB L w0 wr mb rv out n) {x:V} (hx:okV x) {ks:List PR} (hU:Under out n x ks) :
  ∃ ao cap,∀ w',TB L w0 w' mb rv out n → (Instr.lookup mapT (.map (some mb)) (.agg (zs5 x)) false).run Tryz.prog w' = .ok (.slice ao ks.length cap) w' ∧ (ks ≠ [] → ∃ g,ao=some ⟨g,0,none⟩ ∧ w0.heap.size ≤ g ∧ ∀ i (hi:i < ks.length),w'.cell? ⟨g,i * 2,none⟩ = some (.slice none 0 0) ∧ w'.cell? ⟨g,i * 2 + 1,none⟩ = some ks[i].1):=by
 obtain ⟨l,hl⟩:=zts x hx.1 hx.2;rcases h.find wr hx with ⟨hnew,-⟩ | ⟨j,hj,hkj,-⟩
 ·obtain rfl:=hU.2 hnew;refine ⟨none,0,fun w' h' => ⟨?_,fun h0 => absurd rfl h0⟩⟩;rcases h'.find w' hx with ⟨-,hf⟩ | ⟨j,hj,hkj,-⟩
  ·exact zak (T:=mapT) key8_keyed Tryz.underlying124 h'.map hl ztl none hf
  ·exact absurd hkj (hnew j hj)
 ·have hrs:=hU.1 j hj hkj;have hlk:∀ w',TB L w0 w' mb rv out n → (Instr.lookup mapT (.map (some mb)) (.agg (zs5 x)) false).run Tryz.prog w' = .ok (rv j) w':=fun w' h' => by
   rcases h'.find w' hx with ⟨hnew,-⟩ | ⟨j2,hj2,hkj2,hf⟩
   ·exact absurd hkj (hnew j hj)
   ·have e:=zak (T:=mapT) key8_keyed Tryz.underlying124 h'.map hl ztl _ hf;rw [h.inj j2 j hj2 hj (by rw [hkj2,hkj])] at e;exact e
  have hr:=h.rows j hj;rw [hrs] at hr;have hrb:=h.rb j hj;have hall:∀ w',TB L w0 w' mb rv out n → w'.ownsRow 0 131 2 (rv j) ks.length (zth ks):=fun w' h' => by
   have:=h'.rows j hj
   rwa [hrs] at this
  generalize rv j=z at *;rcases hr.2 with ⟨hv,hl⟩ | ⟨g,cap,cur,hv,hb,hgh,hnc,hcm,hcs,htake⟩
  ·subst hv;obtain rfl:ks=[]:=List.length_eq_zero_iff.1 hl;exact ⟨none,0,fun w' h' => ⟨hlk w' h',fun h0 => absurd rfl h0⟩⟩
  ·subst hv;have hg:=(hrb g (by simp [Value.ownBlock])).1;refine ⟨_,cap,fun w' h' => ⟨hlk w' h',fun h0 => ⟨g,rfl,hg,fun i hi => ?_⟩⟩⟩;have f0:=zm4 (fun p:PR => [.slice none 0 0,p.1]) 2 (fun _ => rfl) ks i hi 0 BS;have f1:=zm4 (fun p:PR => [.slice none 0 0,p.1]) 2 (fun _ => rfl) ks i hi 1 BS;exact ⟨(zar (hall w' h')).2.2 (i * 2) _ f0,(zar (hall w' h')).2.2 (i * 2 + 1) _ f1⟩
end Go.Proofs.YtcabeljiobiojaaGreatDoor
