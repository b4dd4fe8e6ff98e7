/-
  law15.PlanJoins, walked. No condition but that Go's own variables hold what they were laid with.
-/
import Derived.Test.YtcabeljiobiojaaGreatDoorQ52
set_option linter.unusedVariables false
namespace Go.Proofs.YtcabeljiobiojaaGreatDoor
open Go.RowKit
theorem yfS {p:Prop} (h:p:=by
  go_wp2_with fail;go_roundg (Q - (k + 1))
  case measure => omega
  case rel => exact ⟨k + 1,by omega,by go_num,by rw [HW.out.2],hMz⟩
 ):p:=h
abbrev tRows (C:Nat → Int × ByteArray × Bool) (R:Nat):List (List V):=ztp colKind colNull 4 C R
abbrev uRows (D:Nat → Int × ByteArray × Bool) (Q:Nat):List (List V):=ztp colKind ztj 3 D Q
theorem ztU (cn:Bool) (n:Int) (s:ByteArray) (z:Bool):cellV 1 cn n s z = ⟨true,0,⟨#[]⟩⟩ ∨ cellV 1 cn n s z = ⟨false,n,⟨#[]⟩⟩:=by
 unfold cellV;by_cases h:z=true ∧ cn=true
 ·rw [if_pos h]; exact .inl rfl
 ·rw [if_neg h]; exact .inr rfl
theorem hd_t (C:Nat → Int × ByteArray × Bool) (i:Nat):hd0 (rowG colKind colNull 4 C i 4) = ⟨false,(C (4 * i)).1,⟨#[]⟩⟩:=by show cellV (colKind 0) (colNull 0) (C (4 * i + 0)).1 (C (4 * i + 0)).2.1 (C (4 * i + 0)).2.2=_;unfold cellV colKind colNull;simp
theorem hd_u (D:Nat → Int × ByteArray × Bool) (i:Nat):hd0 (rowG colKind ztj 3 D i 3) = ⟨true,0,⟨#[]⟩⟩ ∨ hd0 (rowG colKind ztj 3 D i 3) = ⟨false,(D (3 * i)).1,⟨#[]⟩⟩:=
 ztU (ztj 0) (D (3 * i + 0)).1 (D (3 * i + 0)).2.1 (D (3 * i + 0)).2.2
structure RowsAre (ls us:List (List V)) (R Q:Nat):Prop where
 nl:ls.length=R
 nu:us.length=Q
 R8:R ≤ 8
 Q6:Q ≤ 6
 l4:∀ r ∈ ls,r.length=4
 u3:∀ r ∈ us,r.length=3
 il:∀ r ∈ ls,ztv (hd0 r) ∧ (hd0 r).z=false
 iu:∀ r ∈ us,ztv (hd0 r)
 ol:∀ r ∈ ls,okV (hd0 r)
 ou:∀ r ∈ us,okV (hd0 r)
theorem RowsAre.fl {ls us:List (List V)} {R Q:Nat} (h:RowsAre ls us R Q):zpp ls:=⟨by have:=h.nl; have:=h.R8; omega,fun r hr => by rw [h.l4 r hr]; omega⟩
theorem RowsAre.fu {ls us:List (List V)} {R Q:Nat} (h:RowsAre ls us R Q):zpp us:=⟨by have:=h.nu; have:=h.Q6; omega,fun r hr => by rw [h.u3 r hr]; omega⟩
theorem zt9 {w:World} {lao rao:Option Addr} {n m:Nat} {C D:Nat → Int × ByteArray × Bool} (hC:CellsIn w lao n C) (hD:CellsIn w rao m D):RowsAre (tRows C (ztf 4 n 8)) (uRows D (ztf 3 m 6)) (ztf 4 n 8) (ztf 3 m 6):=by
 have bC:∀ i,i < ztf 4 n 8 → -9223372036854775808 ≤ (C (4 * i)).1 ∧ (C (4 * i)).1 ≤ 9223372036854775807:=fun i hi => by have h:=ztF BW hi;obtain ⟨b,o,h1,h2⟩:=hC BS;exact (h2 (4 * i) BS).2.1
 have bD:∀ i,i < ztf 3 m 6 → -9223372036854775808 ≤ (D (3 * i)).1 ∧ (D (3 * i)).1 ≤ 9223372036854775807:=fun i hi => by have h:=ztF BW hi;obtain ⟨b,o,h1,h2⟩:=hD BS;exact (h2 (3 * i) BS).2.1
 refine ⟨zta _ _ _ _ _,zta _ _ _ _ _,ztt _ _ _,ztt _ _ _,?_,?_,?_,?_,?_,?_⟩
 ·intro r hr; obtain ⟨i,hi,rfl⟩:=ztb hr; exact zs7 _ _ _ _ _ _
 ·intro r hr; obtain ⟨i,hi,rfl⟩:=ztb hr; exact zs7 _ _ _ _ _ _
 ·intro r hr; obtain ⟨i,hi,rfl⟩:=ztb hr; rw [hd_t]; exact ⟨⟨rfl,fun h => by cases h⟩,rfl⟩
 ·intro r hr; obtain ⟨i,hi,rfl⟩:=ztb hr;rcases hd_u D i with h | h
  ·rw [h]; exact ⟨rfl,fun _ => rfl⟩
  ·rw [h]; exact ⟨rfl,fun h => by cases h⟩
 ·intro r hr; obtain ⟨i,hi,rfl⟩:=ztb hr; rw [hd_t]; exact ⟨bC i hi,by show (0:Nat) ≤ _; omega⟩
 ·intro r hr; obtain ⟨i,hi,rfl⟩:=ztb hr;rcases hd_u D i with h | h
  ·rw [h]; exact ⟨⟨by decide,by decide⟩,by decide⟩
  ·rw [h]; exact ⟨bD i hi,by show (0:Nat) ≤ _; omega⟩
theorem ztI (ls us:List (List V)) (h3:∀ u ∈ us,u.length=3) (h4:∀ r ∈ ls,r.length=4):∀ x ∈ joinP kL0 kR0 (fun _ => true) ls (us.map (zs4 4)),x.length=7:=by
 intro x hx;unfold joinP at hx;obtain ⟨r,hr,hx⟩:=List.mem_flatMap.1 hx;unfold zs2 at hx;split at hx
 ·rw [List.filter_eq_self.2 (fun _ _ => rfl)] at hx;obtain ⟨u,hu,rfl⟩:=List.mem_map.1 hx;obtain ⟨v,hv,rfl⟩:=List.mem_map.1 (List.mem_filter.1 hu).1;rw [ztN,List.length_append,h4 r hr,h3 v hv]
 ·cases hx
theorem ztG (ls us:List (List V)):(zs6 fits2 out2 ls us).length ≤ ls.length * us.length:=by
 unfold zs6
 induction ls with
 | nil => simp
 | cons r ls ih =>
  rw [List.flatMap_cons,List.length_append,List.length_cons,Nat.succ_mul];have:(ztc fits2 out2 us r).length ≤ us.length:=by unfold ztc; rw [List.length_map]; exact List.length_filter_le _ _
  omega
theorem zua (w:World) (hT:Tabs3 w) (ls us:List (List V)) (R Q:Nat) (h:RowsAre ls us R Q) (xo yo:Option Addr) (xc yc:Nat) (hX:RowsIn w xo ls []) (hY:RowsIn w yo us []) :
  Calls Tryz.prog 8 #[.string ⟨joinL.toArray⟩,.slice xo R xc,.slice yo Q yc] w (ztu w (zs6 fits2 out2 ls us)):=by
 obtain ⟨c,h1,h2,a,b,d,hc,h2T,hg,hp,e1,e2,hi,ea,eb,ed⟩:=zuA;have hit:∀ r ∈ ls,ztv (hd0 r) ∧ (hd0 r).z=false ∧ r.length=4:=fun r hr => ⟨(h.il r hr).1,(h.il r hr).2,h.l4 r hr⟩;have hout:∀ r u:List V,r.length=4 → zpj c.items (r ++ u)=out2 r u:=fun r u hr => by unfold zpj out2;rw [hi];show [(r ++ u).getD a.col zeroV0,(r ++ u).getD b.col zeroV0,(r ++ u).getD d.col zeroV0]=_;rw [ea.2,eb.2,ed.2,zuq r u hr,zt6 r u hr 0,zt6 r u hr 2];rfl
 have hmap:=ztQ ls us hit h.iu (zpj c.items) hout;have hlen:=ztG ls us;rw [h.nl,h.nu] at hlen;have h48:R * Q ≤ 48:=Nat.mul_le_mul h.R8 h.Q6;obtain ⟨n,hn⟩:=EX ((joinP kL0 kR0 (fun _ => true) ls (us.map (zs4 4))).length);have hn2:(zs6 fits2 out2 ls us).length=n:=by rw [← hmap,List.length_map,hn]
 have:=ztA w hT joinL BW c hc h2T (.slice xo R xc) (.slice yo Q yc) _ n hn (zuC w c h1 h2 hp h2T.right e1 e2 xo yo xc yc R Q ls us h.nl h.nu hX hY h.fl h.fu h.ol h.ou) (zs6 fits2 out2 ls us) n hn2 BS (fun W rb pb cb bo bc hQ hI => by
  rw [← hmap];refine zp8 W rb pb cb c hQ hg (wd:=7) (fun x hx => ?_) 3 (by rw [hi]; rfl) BW bo bc _ n hn BS hI (ztI ls us h.u3 h.l4);rw [hi] at hx;simp only [List.mem_cons,List.not_mem_nil,or_false] at hx;rcases hx with rfl | rfl | rfl
  ·exact ⟨⟨_,rfl,ea.1⟩,by show a.col < 7; rw [ea.2]; decide⟩
  ·exact ⟨⟨_,rfl,eb.1⟩,by show b.col < 7; rw [eb.2]; decide⟩
  ·exact ⟨⟨_,rfl,ed.1⟩,by show d.col < 7; rw [ed.2]; decide⟩)
 exact this
theorem zub (w:World) (hT:Tabs3 w) (ls us:List (List V)) (R Q:Nat) (h:RowsAre ls us R Q) (xo yo:Option Addr) (xc yc:Nat) (hX:RowsIn w xo ls []) (hY:RowsIn w yo us []) :
  Calls Tryz.prog 8 #[.string ⟨noneL.toArray⟩,.slice xo R xc,.slice yo Q yc] w (ztu w []):=by
 obtain ⟨c,hd,l,hc,h2T,hg,hp,hop,hn,hz,hl⟩:=zuB;exact ztA w hT noneL BW c hc h2T (.slice xo R xc) (.slice yo Q yc) [] 0 rfl (zuD w c hd l hp h2T.right hop hn hz hl xo yo xc yc R Q ls us h.nl h.nu hX hY h.fl h.fu) [] 0 rfl BS (fun W rb pb cb bo bc hQ hI => ztP W rb pb cb c hQ hg bo bc)
theorem ztx {w:World} {ao:Option Addr} {rs:List (List V)} (h:RowsIn w ao rs []) {i:Nat} (hi:i < rs.length) {n:Nat} (hn:rs[i].length=n) (h0:0 < n):∃ b off p po c,ao=some ⟨b,off,none⟩ ∧ w.cell? ⟨b,off + i,none⟩ = some (.slice (some ⟨p,po,none⟩) n c) ∧ n ≤ c ∧
  ∀ k,k < n → w.cell? ⟨p,po + k * 3,none⟩ = some (.bool (rs[i].getD k zeroV0).z) ∧ w.cell? ⟨p,po + k * 3 + 1,none⟩ = some (.int .i64 (rs[i].getD k zeroV0).n) ∧ w.cell? ⟨p,po + k * 3 + 2,none⟩ = some (.string (rs[i].getD k zeroV0).s):=by
 obtain ⟨b,off,hb,-,hcs⟩:=h (fun h0 => by rw [h0] at hi; simp at hi);obtain ⟨vo,c,hc,k0,hV⟩:=hcs i hi;rw [hn] at k0 hc;obtain ⟨p,po,rfl,-,hp⟩:=hV (fun h0 => by rw [h0] at hn; simp at hn; omega);refine ⟨b,off,p,po,c,hb,k0,hc,fun k hk => ?_⟩;have hk':k < rs[i].length:=by omega
 have e:rs[i].getD k zeroV0=rs[i][k]:=by simp [List.getD_eq_getElem?_getD,List.getElem?_eq_getElem hk']
 rw [e];exact hp k hk'
set_option maxRecDepth 100000 in
set_option maxHeartbeats 8000000 in
theorem ztD (w:World) (hT:Tabs3 w) (lao:Option Addr) (n cl:Nat) (hn:n ≤ 9223372036854775807) (C:Nat → Int × ByteArray × Bool) (hC:CellsIn w lao n C) (rao:Option Addr) (m rl:Nat) (hm:m ≤ 9223372036854775807) (D:Nat → Int × ByteArray × Bool) (hD:CellsIn w rao m D) :
  Calls Tryz.prog 4 #[.slice lao n cl,.slice rao m rl] w fun e w' => e = .returned (.bool true) ∧ Mods [] w w':=by
 have hex:=zpM w hT;have hare:=zt9 hC hD;have HH:=QH (AI hT (AI hn (AI hC (AI hm (AI hD hare)))));clear hT hn hC hm hD hare;go_enter Tryz.func4, Tryz.ntmps4;go_wp2_with fail;(with_reducible refine hex.mono ?_);rintro e w2 ⟨rfl,hM2⟩;clear hex;have htb:=tables15u w2;have HM2:=QH hM2;clear hM2;go_wp2_with fail;(with_reducible refine htb.mono ?_);rintro e w3 ⟨tb,g,dd,rfl,hM3,hb,hg,hd⟩;clear htb;have t0:=za hb 0;have t1:=za hb 1;have t2:=za hb 2;have t3:=za hb 3;change w3.cell? _=some (.string ⟨#[116]⟩) at t0;change w3.cell? _=some (.slice (some ⟨g,0,none⟩) 4 4) at t1;change w3.cell? _=some (.string ⟨#[117]⟩) at t2;change w3.cell? _=some (.slice (some ⟨dd,0,none⟩) 3 3) at t3;have hMw:=HM2.out.trans hM3;have hrw:=lawrowsG w3 4 BW BW colsT colName colKind colScale colNull zry ⟨#[116]⟩ g hg lao n cl HH.out.2.1 C (HH.out.2.2.1.mods hMw) 8 BW;change Calls _ _ #[_,_,.int .i64 8] _ _ at hrw;change Calls _ _ #[.agg #[_,.slice _ 4 4],_,_] _ _ at hrw;have HM3:=QH (AI hMw hd);clear hM3 hb hg hMw hd;go_wp2_with fail;(with_reducible refine hrw.mono ?_);rintro e w4 ⟨t,rfl,hM4,hRC⟩;clear hrw;obtain ⟨hMw,hd⟩:=HM3.out;replace t2:=hM4.cell t2;replace t3:=hM4.cell t3;have hMw4:=hMw.trans hM4;have hrw:=lawrowsG w4 3 BW BW colsU colUName colKind colUScale ztj zur ⟨#[117]⟩ dd (hM4.heap hd) rao m rl HH.out.2.2.2.1 D (HH.out.2.2.2.2.1.mods hMw4) 6 BW;change Calls _ _ #[_,_,.int .i64 6] _ _ at hrw;change Calls _ _ #[.agg #[_,.slice _ 3 3],_,_] _ _ at hrw;have HM4:=QH (AI hMw4 hRC);clear hM4 hMw hd hMw4 hRC t0 t1;go_wp2_with fail;(with_reducible refine hrw.mono ?_);rintro e w5 ⟨t',rfl,hM5,hRD⟩;clear hrw t2 t3;obtain ⟨hMw4,hRC⟩:=HM4.out;obtain ⟨R,hR⟩:=EX (ztf 4 n 8);obtain ⟨Q,hQ⟩:=EX (ztf 3 m 6);have hare:=HH.out.2.2.2.2.2;rw [hR,hQ] at hare;rw [hR] at hRC;rw [hQ] at hRD;change RowsC _ _ _ (tRows C R) at hRC;change RowsC _ _ _ (uRows D Q) at hRD;obtain ⟨ls,hls⟩:=EX (tRows C R);obtain ⟨us,hus⟩:=EX (uRows D Q);rw [hls] at hare hRC;rw [hus] at hare hRD;obtain ⟨xo,xc,rfl,hxc,hX⟩:=(hRC.later hM5 BU).read (L:=[]) BU;obtain ⟨yo,yc,rfl,hyc,hY⟩:=hRD.read (L:=[]) BU;rw [hare.nl] at hxc ⊢;rw [hare.nu] at hyc ⊢;have hMw5:=hMw4.trans hM5;have hT5:=HH.out.1.later hMw5;have ha1:=zua w5 hT5 ls us R Q hare xo yo xc yc hX hY;change Calls _ _ #[.string ⟨#[83,69,76,69,67,84,32,97,44,32,120,44,32,122,32,70,82,79,77,32,116,32,74,79,73,78,32,117,32,79,78,32,97,32,61,32,120]⟩,_,_] _ _ at ha1;have HX:=QH (AI hMw5 (AI hX (AI hY (AI hare hT5))));clear hls hus hR hQ hRC hRD hM5 hMw4 hX hY hare hT5 hMw5;go_wp2_with fail;(with_reducible refine ha1.mono ?_);rintro e w6 ⟨ao,ac,rfl,hac,hM6,hA⟩;clear ha1;obtain ⟨hMw5,hX,hY,hare,hT5⟩:=HX.out;have ha2:=zub w6 (hT5.later hM6) ls us R Q hare xo yo xc yc (hX.mods hM6) (hY.mods hM6);change Calls _ _ #[.string ⟨#[83,69,76,69,67,84,32,49,32,47,32,48,32,70,82,79,77,32,116,32,74,79,73,78,32,117,32,79,78,32,70,65,76,83,69,32,65,78,68,32,49,32,47,32,48,32,61,32,49]⟩,_,_] _ _ at ha2;obtain ⟨N,hN⟩:=EX ((zs6 fits2 out2 ls us).length);rw [hN] at hac ⊢;have hA6:=hA [] BU;have HA:=QH (AI hM6 (AI hA6 (AI hac hN)));clear hMw5 hX hY hare hT5 hA hM6 hA6 hac hN;go_wp2_with fail;(with_reducible refine ha2.mono ?_);rintro e w7 ⟨zo,zc,rfl,-,hM7,-⟩;clear ha2;obtain ⟨hMw5,hX,hY,hare,-⟩:=HX.out;obtain ⟨hM6,hA6,hac,hN⟩:=HA.out;have hM57:=hM6.trans hM7;have hMw7:=hMw5.trans hM57;have HZ:=QH (AI hMw7 (AI (hX.mods hM57) (AI (hY.mods hM57) (AI (hA6.mods hM7) (AI hac (AI hN hare))))));clear hMw5 hX hY hare hM6 hA6 hac hN hM57 hMw7 hM7 HX HA;go_wp2_with fail;go_loopg [13,14] R (fun gk t13 t14 wr => ∃ i:Nat,i + gk=R ∧ t14 = .int .i64 i ∧ t13 = .int .i64 (atX fits2 out2 ls us i:Nat) ∧ Mods [] w7 wr)
 case atStart => exact ⟨0,by omega,rfl,by rw [zul]; rfl,QM _ _⟩
 obtain ⟨i,hin,rfl,rfl,hM⟩:=hrel;by_cases hlt:i < R
 ·go_wp2_with fail;generalize wr=wo at *;have HM:=QH hM;clear hM;obtain ⟨ax,hax⟩:=EX (atX fits2 out2 ls us i);rw [hax];have hil:i < ls.length:=by rw [HZ.out.2.2.2.2.2.2.nl]; exact hlt
  obtain ⟨lr,hlr⟩:=EX (ls[i]);have HI:=QH (AI hax hlr);clear hax hlr;go_loopg [13,15] Q (fun gk t13 t15 wx => ∃ k:Nat,k + gk=Q ∧ t15 = .int .i64 k ∧ t13 = .int .i64 ((ax + atY fits2 us lr k:Nat):Int) ∧ Mods [] w7 wx)
  case atStart => exact ⟨0,by omega,rfl,by rw [zum,Nat.add_zero],HM.out⟩
  obtain ⟨k,hkQ,rfl,rfl,hMx⟩:=hrel;by_cases hk:k < Q
  ·obtain ⟨hMw7,hX,hY,hA,hac,hN,hare⟩:=HZ.out;have hkl:k < us.length:=by rw [hare.nu]; exact hk
   have hml:=List.getElem_mem hil;have hmu:=List.getElem_mem hkl;obtain ⟨xb,xof,p,po,pc,rfl,x0,hpc,hp⟩:=ztx hX hil (hare.l4 _ hml) BS;obtain ⟨yb,yof,q,qo,qc,rfl,y0,hqc,hq⟩:=ztx hY hkl (hare.u3 _ hmu) BS;obtain ⟨p0,p1,p2⟩:=hp 0 BS;obtain ⟨q0,q1,q2⟩:=hq 0 BS;obtain ⟨q6,q7,q8⟩:=hq 2 BS;have hnx:=zuo fits2 us lr hkl;have hpair:=zup fits2 out2 ls us hil hkl;rw [HI.out.1] at hpair;rw [HI.out.2] at hpair p0 p1 p2;obtain ⟨ur,hur⟩:=EX (us[k]);rw [hur] at hpair hnx q0 q1 q2 q6 q7 q8;obtain ⟨ay,hay⟩:=EX (ax + atY fits2 us lr k);rw [hay] at hpair ⊢;obtain ⟨a,ha⟩:=EX (hd0 lr);obtain ⟨b,hb⟩:=EX (hd0 ur);obtain ⟨c,hc⟩:=EX (ur.getD 2 zeroV0);have hfit:fits2 lr ur=(!b.z && decide (b.n=a.n)):=by unfold fits2; rw [ha,hb]
   have hout:out2 lr ur=[a,b,c]:=by unfold out2; rw [ha,hb,hc]
   change w7.cell? ⟨p,po,none⟩ = some (.bool (hd0 lr).z) at p0;change w7.cell? ⟨p,po + 1,none⟩ = some (.int .i64 (hd0 lr).n) at p1;change w7.cell? ⟨p,po + 2,none⟩ = some (.string (hd0 lr).s) at p2;change w7.cell? ⟨q,qo,none⟩ = some (.bool (hd0 ur).z) at q0;change w7.cell? ⟨q,qo + 1,none⟩ = some (.int .i64 (hd0 ur).n) at q1;change w7.cell? ⟨q,qo + 2,none⟩ = some (.string (hd0 ur).s) at q2;change w7.cell? ⟨q,qo + 6,none⟩ = some (.bool (ur.getD 2 zeroV0).z) at q6;change w7.cell? ⟨q,qo + 7,none⟩ = some (.int .i64 (ur.getD 2 zeroV0).n) at q7;change w7.cell? ⟨q,qo + 8,none⟩ = some (.string (ur.getD 2 zeroV0).s) at q8;rw [ha] at p0 p1 p2;rw [hb] at q0 q1 q2;rw [hc] at q6 q7 q8;obtain ⟨az,an,aq⟩:=a;obtain ⟨bz,bn,bq⟩:=b;obtain ⟨cz,cn,cq⟩:=c;simp only at p0 p1 p2 q0 q1 q2 q6 q7 q8 hfit;replace x0:=hMx.cell x0;replace y0:=hMx.cell y0;replace p0:=hMx.cell p0;replace p1:=hMx.cell p1;replace p2:=hMx.cell p2;replace q0:=hMx.cell q0;replace q1:=hMx.cell q1;replace q2:=hMx.cell q2;replace q6:=hMx.cell q6;replace q7:=hMx.cell q7;replace q8:=hMx.cell q8;by_cases hB:bz=false ∧ bn=an
   ·obtain ⟨rfl,rfl⟩:=hB;have hfit:fits2 lr ur=true:=by rw [hfit]; simp
    rw [hfit,if_pos rfl] at hnx;have hpr:=hpair hfit;rw [hout] at hpr;have hlt2:ay < (zs6 fits2 out2 ls us).length:=(List.getElem?_eq_some_iff.1 hpr).1;have hge:(zs6 fits2 out2 ls us)[ay]=[⟨az,bn,aq⟩,⟨false,bn,bq⟩,⟨cz,cn,cq⟩]:=(List.getElem?_eq_some_iff.1 hpr).2;obtain ⟨ab,aof,u,uo,uc,rfl,a0,huc,hu⟩:=ztx hA hlt2 (n:=3) (by rw [hge]; rfl) BS;obtain ⟨u0,u1,u2⟩:=hu 0 BS;obtain ⟨u3,u4',u5⟩:=hu 1 BS;obtain ⟨u6,u7',u8⟩:=hu 2 BS;rw [hge] at u0 u1 u2 u3 u4' u5 u6 u7' u8;rw [hN] at hlt2;change w7.cell? ⟨u,uo,none⟩ = some (.bool az) at u0;change w7.cell? ⟨u,uo + 1,none⟩ = some (.int .i64 bn) at u1;change w7.cell? ⟨u,uo + 2,none⟩ = some (.string aq) at u2;change w7.cell? ⟨u,uo + 3,none⟩ = some (.bool false) at u3;change w7.cell? ⟨u,uo + 4,none⟩ = some (.int .i64 bn) at u4';change w7.cell? ⟨u,uo + 5,none⟩ = some (.string bq) at u5;change w7.cell? ⟨u,uo + 6,none⟩ = some (.bool cz) at u6;change w7.cell? ⟨u,uo + 7,none⟩ = some (.int .i64 cn) at u7';change w7.cell? ⟨u,uo + 8,none⟩ = some (.string cq) at u8;replace a0:=hMx.cell a0;replace u0:=hMx.cell u0;replace u1:=hMx.cell u1;replace u2:=hMx.cell u2;replace u3:=hMx.cell u3;replace u4':=hMx.cell u4';replace u5:=hMx.cell u5;replace u6:=hMx.cell u6;replace u7':=hMx.cell u7';replace u8:=hMx.cell u8;have hn1:=fun W => zrq az az bn bn aq aq W;have hn2:=fun W => zrq false false bn bn bq bq W;have hn3:=fun W => zrq cz cz cn cn cq cq W;simp only [decide_true,Bool.not_true] at hn1 hn2 hn3;have z1:¬ (N:Int) ≤ (ay:Int):=by omega
    have z2:decide ((N:Int) ≤ (ay:Int))=false:=decide_eq_false z1;have z3:((bn:Int) != bn)=false:=by simp
    have hnx2:ax + atY fits2 us lr (k + 1)=ay + 1:=by omega
    have HW:=QH (AI hMx hnx2);have hR8:=hare.R8;have hQ6:=hare.Q6;have hN48:N ≤ 48:=by have h1:=ztG ls us;rw [hN,hare.nl,hare.nu] at h1;exact Nat.le_trans h1 (Nat.mul_le_mul hR8 hQ6)
    clear hMw7 hX hY hA hN hare hml hmu hp hq hnx hnx2 hpair hur hay ha hb hc hfit hout hpr hge hu hMx;go_wp2_with fail;go_quiet (fail);have hMq:=HW.out.1.drewN nq;replace x0:World.cell? (wr.drewN nq) _=some (.slice (some ⟨p,po,none⟩) 4 pc):=x0;replace y0:World.cell? (wr.drewN nq) _=some (.slice (some ⟨q,qo,none⟩) 3 qc):=y0;replace p0:World.cell? (wr.drewN nq) _=some (.bool az):=p0;replace p1:World.cell? (wr.drewN nq) _=some (.int .i64 bn):=p1;replace p2:World.cell? (wr.drewN nq) _=some (.string aq):=p2;replace q0:World.cell? (wr.drewN nq) _=some (.bool false):=q0;replace q1:World.cell? (wr.drewN nq) _=some (.int .i64 bn):=q1;replace q2:World.cell? (wr.drewN nq) _=some (.string bq):=q2;replace q6:World.cell? (wr.drewN nq) _=some (.bool cz):=q6;replace q7:World.cell? (wr.drewN nq) _=some (.int .i64 cn):=q7;replace q8:World.cell? (wr.drewN nq) _=some (.string cq):=q8;replace a0:World.cell? (wr.drewN nq) _=some (.slice (some ⟨u,uo,none⟩) 3 uc):=a0;replace u0:World.cell? (wr.drewN nq) _=some (.bool az):=u0;replace u1:World.cell? (wr.drewN nq) _=some (.int .i64 bn):=u1;replace u2:World.cell? (wr.drewN nq) _=some (.string aq):=u2;replace u3:World.cell? (wr.drewN nq) _=some (.bool false):=u3;replace u4':World.cell? (wr.drewN nq) _=some (.int .i64 bn):=u4';replace u5:World.cell? (wr.drewN nq) _=some (.string bq):=u5;replace u6:World.cell? (wr.drewN nq) _=some (.bool cz):=u6;replace u7':World.cell? (wr.drewN nq) _=some (.int .i64 cn):=u7';replace u8:World.cell? (wr.drewN nq) _=some (.string cq):=u8;generalize wr.drewN nq=wy at *;have HW2:=QH hMq;clear hMq;go_wp2_with fail;go_quiet (fail);have hMz:=HW2.out.drewN nq;generalize wy.drewN nq=wz at *;clear x0 y0 p0 p1 p2 q0 q1 q2 q6 q7 q8 a0 u0 u1 u2 u3 u4' u5 u6 u7' u8 hn1 hn2 hn3;go_wp2_with fail;go_roundg (Q - (k + 1))
    case measure => omega
    case rel => exact ⟨k + 1,by omega,by go_num,by rw [HW.out.2]; go_num,hMz⟩
   ·have hnx2:ax + atY fits2 us lr (k + 1)=ay:=by
     have hfit:fits2 lr ur=false:=by
      rw [hfit]
      cases bz with
      | true => rfl
      | false => simpa using hB
     rw [hfit,if_neg BW] at hnx;omega
    have HW:=QH (AI hMx hnx2);have hR8:=hare.R8;have hQ6:=hare.Q6;clear hMw7 hX hY hA hN hare hml hmu hp hq hnx hnx2 hpair hur hay ha hb hc hfit hout hMx q6 q7 q8 p0 p2 q2
    cases bz with
    | true =>clear hB;go_wp2_with fail;go_quiet (fail);have hMz:=HW.out.1.drewN nq;generalize wr.drewN nq=wz at *;clear x0 y0 p1 q0 q1;exact yfS
    | false =>
     have hne:¬ bn=an:=fun h => hB ⟨rfl,h⟩;have hne2:(bn != an)=true:=by simpa using hne
     clear hB;go_wp2_with fail;go_quiet (fail);have hMz:=HW.out.1.drewN nq;generalize wr.drewN nq=wz at *;clear x0 y0 p1 q0 q1 hne hne2;exact yfS
  ·obtain rfl:k=Q:=by omega
   have hare:=HZ.out.2.2.2.2.2.2;have hnx:atX fits2 out2 ls us (i + 1)=ax + atY fits2 us lr k:=by rw [zun fits2 out2 ls us hil,HI.out.1,HI.out.2,hare.nu]
   obtain ⟨ay,hay⟩:=EX (ax + atY fits2 us lr k);rw [hay] at hnx ⊢;have HW:=QH (AI hnx hMx);have hR8:=hare.R8;clear hare hnx hay hMx;go_wp2_with fail;go_roundg (R - (i + 1))
   case measure => omega
   case rel => exact ⟨i + 1,by omega,by go_num,by rw [HW.out.1],HW.out.2⟩
 ·obtain rfl:i=R:=by omega
  obtain ⟨hMw7,hX,hY,hA,hac,hN,hare⟩:=HZ.out;have he:atX fits2 out2 ls us i=N:=by rw [← hare.nl,zuz,hN]
  rw [he];have hMz:=hMw7.trans hM;clear hMw7 hX hY hA hac hN hare he hM;go_wp2_with fail;go_ret;exact ⟨rfl,hMz⟩
theorem ztB (w:World) (hT:Tabs2 w ∧ CkVars w) (lao:Option Addr) (n cl:Nat) (C:Nat → Int × ByteArray × Bool) (hn:n ≤ 9223372036854775807) (hC:CellsIn w lao n C) (rao:Option Addr) (m rl:Nat) (D:Nat → Int × ByteArray × Bool) (hm:m ≤ 9223372036854775807) (hD:CellsIn w rao m D) :
  Calls Tryz.prog 4 #[.slice lao n cl,.slice rao m rl] w fun e w' => e = .returned (.bool true) ∧ Mods [] w w':=ztD w hT lao n cl hn C hC rao m rl hm D hD
end Go.Proofs.YtcabeljiobiojaaGreatDoor
