/-
  lex.All and lex.Key, walked: the tokens of any text. No condition but that Go's own variables hold what they were laid with.
-/
import Derived.Test.YtebljciefhfgbaaGreatDoorQ03
set_option linter.unusedVariables false
namespace Go.Proofs.YtebljciefhfgbaaGreatDoor
open Go.RowKit
theorem BO {p:Prop} (h:p:=by rw [hr]; exact List.mem_cons_self):p:=h
theorem BH {p:Prop} (h:p:=by simpa using hi):p:=h
theorem ycf {p:Prop} (h:p:=by
  ·obtain rfl:g=g':=by simpa [Value.ownBlock] using hg'
   rcases hg with h | h
   ·exact h5 g h
   ·have:=h1.size; omega
 ):p:=h
def zdl (t:Tok):List Value:=[.int .i64 t.kind,.int .i64 t.pos,.string ⟨t.s.toArray⟩,.int .i64 t.n,.int .i64 t.scale]
def zc5 (ts:List Tok):List Value:=ts.flatMap zdl
theorem zfN (ts:List Tok) (t:Tok):zc5 (ts ++ [t])=zc5 ts ++ zdl t:=by simp [zc5]
def ToksOwn (T:TypeId) (w wr:World) (t:Value) (ts:List Tok):Prop:=
 Mods [] w wr ∧ wr.ownsRow 0 T 5 t ts.length (zc5 ts) ∧ ∀ g,t.ownBlock=some g → w.heap.size ≤ g
theorem ToksOwn.start (T:TypeId) (w:World):ToksOwn T w w (.slice none 0 0) []:=⟨QM _ _,World.ownsRow_nil _ _ _ _,fun g hg => by cases hg⟩
theorem ToksOwn.quiet {T:TypeId} {w wr w':World} {t:Value} {ts:List Tok} (h:ToksOwn T w wr t ts) (hM:Mods [] wr w'):ToksOwn T w w' t ts:=
 ⟨h.1.trans hM,zm h.2.1 hM AB,h.2.2⟩
theorem ToksOwn.push {T:TypeId} {w wr w':World} {t:Value} {ts:List Tok} (h:ToksOwn T w wr t ts) {u:Tok} {g cap:Nat} (hown:w'.ownsRow 0 T 5 (.slice (some ⟨g,0,none⟩) (ts.length + 1) cap) (ts.length + 1) (zc5 ts ++ zdl u))
  (hM:Mods t.ownBlock.toList wr w') (hg:t.ownBlock=some g ∨ wr.heap.size ≤ g):ToksOwn T w w' (.slice (some ⟨g,0,none⟩) (ts.length + 1) cap) (ts ++ [u]):=by
 obtain ⟨h1,-,h5⟩:=h;refine ⟨h1.trans hM (fun x hx => .inr (h5 x AJ)),?_,fun g' hg' => ?_⟩
 ·rw [zfN]; simpa using hown
 exact ycf
theorem ToksOwn.base {T:TypeId} {w wa wr:World} {t:Value} {ts:List Tok} (h:ToksOwn T wa wr t ts) (hM:Mods [] w wa):ToksOwn T w wr t ts:=
 ⟨hM.trans h.1,h.2.1,fun g hg => Nat.le_trans hM.size (h.2.2 g hg)⟩
theorem ToksOwn.slice {T:TypeId} {w wr:World} {t:Value} {ts:List Tok} (h:ToksOwn T w wr t ts):∃ ao cap,t = .slice ao ts.length cap:=by
 rcases h.2.1.2 with ⟨hv,h0⟩ | ⟨g,cap,cur,hv,_⟩
 ·exact ⟨none,0,by rw [hv,h0]⟩
 ·exact ⟨_,_,hv⟩
def zbu (T:TypeId) (w:World) (s:ByteArray) (e:Ending) (w':World):Prop:=
 if 4096 < s.size then e = .returned (.tuple #[.slice none 0 0,.int .i64 0,.int .i64 5]) ∧ Mods [] w w'
 else match za4 s.data.toList with
  | .bad p => e = .returned (.tuple #[.slice none 0 0,.int .i64 p,.int .i64 8]) ∧ Mods [] w w'
  | .good ts => ∃ t,e = .returned (.tuple #[t,.int .i64 0,.int .i64 0]) ∧ ToksOwn T w w' t ts
theorem zfO (w:World) (x y z u v:Value) (t:TypeId):∀ j q,([x,y,z,u,v]:List Value)[j]? = some q → (w.alloc (.cells #[x,y,z,u,v] t)).cell? ((⟨w.heap.size,0,none⟩ : Addr).add j)=some q:=by intro j q hq;rw [zci,za (QN w _),Nat.zero_add];simpa using hq
theorem zeR (w:World) (A:Obj) (x y z u v:Value) (t:TypeId):∀ j q,([x,y,z,u,v]:List Value)[j]? = some q → ((w.alloc A).alloc (.cells #[x,y,z,u,v] t)).cell? ((⟨w.heap.size + 1,0,none⟩ : Addr).add j)=some q:=by have:=zfO (w.alloc A) x y z u v t;rw [zl] at this;exact this
theorem zeS (t:Tok):∀ u ∈ zdl t,u.oneCell'=true:=by intro u hu; simp [zdl] at hu; rcases hu with rfl | rfl | rfl | rfl | rfl <;> rfl
theorem zmt {l:List UInt8} {p:Nat} {t:TokC} {n k:Nat} (h:zc3 (l.drop p)=some (t,n)) (hk:((l.drop (p + n)).takeWhile zbs).length=k):lexG (l.drop p) p=(lexG (l.drop (p + n + k)) (p + n + k)).pre [t.put p]:=by rw [zeM p h,List.drop_drop,zaM,hk,List.drop_drop]
set_option maxRecDepth 100000 in
set_option maxHeartbeats 4000000 in
theorem zkz (w:World) (hT:Tabs w) (s:ByteArray) (hs:s.size ≤ 9223372036854775807) :
  Calls Tryz.prog 26 #[.string s] w (zbu 96 w s):=by
 obtain ⟨i0,hi,hz0,hz1,hz2⟩:=info_parts (show (Tryz.prog.info? 96).map (fun i => (i.zero,i.size,i.bytes))=some (some (.agg (zn 0 0 ⟨#[]⟩ 0 0)),5,48) by kernel_rfl);by_cases hbig:4096 < s.size
 ·have hbz:(4096:Int) < (s.size:Int):=by omega
  have fin:∀ w',Mods [] w w' → zbu 96 w s (.returned (.tuple #[.slice none 0 0,.int .i64 0,.int .i64 5])) w':=fun w' h => by unfold zbu; rw [if_pos hbig]; exact ⟨rfl,h⟩
  have FIN:=QH fin;clear fin hbig;go_enter Tryz.func26, Tryz.ntmps26;go_wp2_with fail;go_returns;exact FIN.out _ (QM _ _)
 ·have hbz:¬ (4096:Int) < (s.size:Int):=by omega
  have hs4:s.size ≤ 4096:=by omega
  have finb:∀ p w',za4 s.data.toList = .bad p → Mods [] w w' → zbu 96 w s (.returned (.tuple #[.slice none 0 0,.int .i64 p,.int .i64 8])) w':=fun p w' hl h => by unfold zbu; rw [if_neg hbig,hl]; exact ⟨rfl,h⟩
  have fing:∀ ts t w',za4 s.data.toList = .good ts → ToksOwn 96 w w' t ts → zbu 96 w s (.returned (.tuple #[t,.int .i64 0,.int .i64 0])) w':=fun ts t w' hl h => by unfold zbu; rw [if_neg hbig,hl]; exact ⟨t,rfl,h⟩
  have FINB:=QH finb;have FING:=QH fing;clear finb fing hbig;go_enter Tryz.func26, Tryz.ntmps26;go_wp2_with fail;refine (zkq _).mono ?_;rintro e w1 ⟨arr,rfl,harr,hkd,hM1⟩;have HKD:=QH hkd;have HARR:=QH harr;clear hkd harr;go_wp2_with fail;refine (zml _ (hT.mods hM1)).mono ?_;rintro e w2 ⟨mb,rfl,hkm,hmb,hM2⟩;obtain ⟨C,hC1,hC2,hC3,hC4,hC5⟩:=zjv s arr mb HARR.out;have hMw2:=hM1.trans hM2;have hMA:=(QM [] w2).alloc (.cells C 154);have hSc:Scan (w2.alloc (.cells C 154)) w2.heap.size s:=⟨_,_,mb,QN w2 _,hC3,fun j hj => by rw [hC4 j hj]; exact HKD.out j hj,hC5,hkm.mods hMA AB⟩;have HSc:=QH hSc;clear hC3 hC4 hC5 hSc hkm HKD HARR;go_wp2_with (refine zhb rfl 154 #[(0,.tmp 11),(1,.tmp 12),(2,.tmp 13)] rfl [(0,.string s),(1,.agg arr),(2,.map (some mb))] (by simp only [List.map_toArray,List.map_cons,List.map_nil]; rfl) C hC1 ?_);clear hC1;have hM3:=hMw2.trans hMA;have HSc2:=HSc.out;generalize w2.alloc (.cells C 154)=w3 at *;generalize w2.heap.size=sb at *;have hrun0:=zdT w3 sb s HSc2 hs 0 AA 1 zbs zku;rw [show ((0:Nat):Int)=0 from rfl] at hrun0;have hp0:=zeO zbs s 0 AA;have hst:za4 s.data.toList=(lexG (s.data.toList.drop (runL zbs s 0)) (runL zbs s 0)).pre []:=by rw [Lexed.pre_nil];unfold za4;rw [zaM]; rfl
  have HST:=QH hst;have hT3:=hT.mods hM3;clear hst hMw2 hM1 hM2 hMA hT HSc hC2;refine hrun0.mono ?_;rintro e w4 ⟨rfl,hM4⟩;obtain ⟨p0,hp0e⟩:=EX (runL zbs s 0);rw [hp0e] at HST hp0 ⊢;have hT4:=hT3.mods hM4;have hSc4:=HSc2.mods hM4;have hM04:=hM3.trans hM4;clear hrun0 hp0e HSc2 hT3 hM3 hM4;go_wp2_with fail;go_loopw [2,3] (fun t2 t3 wr => ∃ (p:Nat) (ts:List Tok),p ≤ s.size ∧ t3 = .int .i64 p ∧ ts.length ≤ p ∧ Hid (ToksOwn 96 w4 wr t2 ts) ∧ Hid (za4 s.data.toList=(lexG (s.data.toList.drop p) p).pre ts)) (fun _ t3 _ => s.size - (intOf t3).toNat)
  case atStart => exact ⟨p0,[],by omega,rfl,by simp,QH (ToksOwn.start _ _),HST⟩
  case round =>
   clear HST;obtain ⟨p,ts,hp,rfl,hts,HO,HL⟩:=hrel;obtain ⟨hMr,hown,hblk⟩:=HO.out;obtain ⟨ao,cap,rfl⟩:=HO.out.slice;have hSr:=hSc4.mods hMr;have hTr:=hT4.mods hMr;have hMwr:=hM04.trans hMr;by_cases hps:p < s.size
   ·have hcall:=zky wr sb s hSr hTr hs4 p hps;have hdl:(s.data.toList.drop p).length=s.size - p:=by rw [List.length_drop]; rfl
    have hdne:s.data.toList.drop p ≠ []:=by intro h; rw [h] at hdl; simp at hdl; omega
    have hpz:(p:Int) < (s.size:Int):=by omega
    have HO2:=HO
    cases htk:zc3 (s.data.toList.drop p) with
    | none =>rw [htk] at hcall;have fin:=QH (fun w' => FINB.out p w' (HL.out.trans (by rw [zgf p hdne htk]; rfl)));clear htk hdl hdne hown hblk HL HO HO2;go_wp2_with fail;refine hcall.mono ?_;rintro e w5 ⟨rfl,hM5⟩;simp only [tokV];clear hcall;go_wp2_with fail;go_returns;exact fin.out _ ((hMwr.trans hM5).alloc _)
    | some x =>
     obtain ⟨t,n⟩:=x;rw [htk] at hcall;have hn:=zge htk;rw [hdl] at hn;have hn0:((n:Int) == 0)=false:=by rw [beq_eq_false_iff_ne]; omega
     have hn1:¬ (n:Int)=0:=by omega
     obtain ⟨k,hk⟩:=EX (runL zbs s (p + n));have hk1:=zeO zbs s (p + n) AA;rw [hk] at hk1;have hstep:=QH (zmt htk hk);have hrun:=fun W (hW:Scan W sb s) => zdT W sb s hW hs (p + n) AA 1 zbs zku;rw [hk,show ((p + n:Nat):Int)=(p:Int) + (n:Int) by omega] at hrun;have HRUN:=QH hrun;clear htk hdl hdne hown hblk hk hrun;go_wp2_with fail;refine hcall.mono ?_;rintro e w5 ⟨rfl,hM5⟩;simp only [tokV];have HO5:=QH (HO.out.quiet hM5);have hown5:=HO5.out.2.1;have hT5:=hTr.mods hM5;have hS5:=hSr.mods hM5;clear hcall hSr hTr HO HO2 hMr;go_wp2_with (at_builtin; refine zw _ rfl _ _ 92 rfl 96 i0 _ 5 48 Tryz.underlying92 hi hz0 hz1 hz2 rfl AD (.slice ao ts.length cap) ts.length (zc5 ts) rfl ((hown5.alloc _).alloc _) ⟨w5.heap.size + 1,0,none⟩ 1 1 (zdl (t.put p)) rfl rfl ?c1 (zeS _) AD ?c3 ?c4 ?_)
     case c1 => exact zeR _ _ _ _ _ _ _ _
     case c3 => unfold maxLen; omega
     case c4 => omega
     intro g cap2 w7 hown7 hM7 hg7;have hAA:=((QM [] w5).alloc (.cells (zn t.kind p ⟨t.s.toArray⟩ t.n t.scale) 96)).alloc (.cells (zn t.kind p ⟨t.s.toArray⟩ t.n t.scale) 96);have hO7:=(HO5.out.quiet hAA).push hown7 hM7 (by rw [zl,zl]; exact hg7);have hM47:=hO7.1;have hS7:=hSc4.mods hM47;have HO7:=QH hO7;clear hown7 hM7 hg7 hAA hO7 hown5 hS5 hT5 HO5 hM5 hM47;go_wp2_with fail;refine (HRUN.out w7 hS7).mono ?_;rintro e w8 ⟨rfl,hM8⟩;have HO8:=QH (HO7.out.quiet hM8);clear HO7 hM8 hS7;go_wp2_with fail;go_roundw
     case measure => simp [intOf]; omega
     case rel => exact ⟨p + n + k,ts ++ [t.put p],by omega,by go_num,by rw [List.length_append]; simp; omega,HO8,QH (by rw [HL.out,hstep.out,Lexed.pre_pre])⟩
   ·obtain rfl:p=s.size:=by omega
    have hdn:s.data.toList.drop s.size=[]:=List.drop_of_length_le (LR _);have fin:=QH (fun t w' => FING.out (ts ++ [⟨0,s.size,[],0,0⟩]) t w' (HL.out.trans (by rw [hdn,ziG]; rfl)));clear hdn hps hblk HL;go_wp2_with (at_builtin; refine zw _ rfl _ _ 92 rfl 96 i0 _ 5 48 Tryz.underlying92 hi hz0 hz1 hz2 rfl AD (.slice ao ts.length cap) ts.length (zc5 ts) rfl (hown.alloc _) ⟨wr.heap.size,0,none⟩ 1 1 (zdl ⟨0,s.size,[],0,0⟩) rfl rfl ?c1 (zeS _) AD ?c3 ?c4 ?_)
    case c1 => exact zfO _ _ _ _ _ _ _
    case c3 => unfold maxLen; omega
    case c4 => omega
    intro g cap2 w7 hown7 hM7 hg7;have hAA:=(QM [] wr).alloc (.cells (zn 0 s.size ⟨#[]⟩ 0 0) 96);have hO7:=QH ((HO.out.quiet hAA).push hown7 hM7 (by rw [zl]; exact hg7));clear hown7 hM7 hg7 hAA;go_wp2_with fail;go_returns;exact fin.out _ _ (hO7.out.base hM04)
def ToksAt (w:World) (g:Nat) (ts:List Tok):Prop:=∀ j u,(zc5 ts)[j]? = some u → w.cell? ⟨g,j,none⟩ = some u
theorem ToksAt.mods {w w':World} {g:Nat} {ts:List Tok} (h:ToksAt w g ts) (hM:Mods [] w w'):ToksAt w' g ts:=fun j u hu => hM.cell (h j u hu)
theorem zcG (ts:List Tok) (i:Nat) (hi:i < ts.length) (j:Nat) (hj:j < 5):(zc5 ts)[i * 5 + j]? = (zdl ts[i])[j]?:=by
 induction ts generalizing i with
 | nil => simp at hi
 | cons t ts ih =>
  have e:zc5 (t :: ts)=zdl t ++ zc5 ts:=by simp [zc5]
  have hl:(zdl t).length=5:=rfl;rw [e]
  cases i with
  | zero => rw [List.getElem?_append_left AA]; simp
  | succ i =>rw [List.getElem?_append_right AA,hl,show (i + 1) * 5 + j - 5=i * 5 + j by omega,ih i BH];rfl
theorem ToksAt.tok {w:World} {g:Nat} {ts:List Tok} (h:ToksAt w g ts) (i:Nat) (hi:i < ts.length) :
  w.cell? ⟨g,i * 5,none⟩ = some (.int .i64 (ts[i]).kind) ∧ w.cell? ⟨g,i * 5 + 1,none⟩ = some (.int .i64 (ts[i]).pos) ∧ w.cell? ⟨g,i * 5 + 2,none⟩ = some (.string ⟨(ts[i]).s.toArray⟩) ∧ w.cell? ⟨g,i * 5 + 3,none⟩ = some (.int .i64 (ts[i]).n) ∧ w.cell? ⟨g,i * 5 + 4,none⟩ = some (.int .i64 (ts[i]).scale):=by
 refine ⟨h _ _ ?_,h _ _ ?_,h _ _ ?_,h _ _ ?_,h _ _ ?_⟩
 ·have:=zcG ts i hi 0 AA; rw [Nat.add_zero] at this; rw [this]; rfl
 ·rw [zcG ts i hi 1 AA]; rfl
 ·rw [zcG ts i hi 2 AA]; rfl
 ·rw [zcG ts i hi 3 AA]; rfl
 ·rw [zcG ts i hi 4 AA]; rfl
theorem ToksOwn.at {T:TypeId} {w wr:World} {t:Value} {ts:List Tok} (h:ToksOwn T w wr t ts) (h0:ts ≠ []):∃ g cap,t = .slice (some ⟨g,0,none⟩) ts.length cap ∧ ToksAt wr g ts ∧ ts.length ≤ cap:=by
 rcases h.2.1.2 with ⟨hv,hn⟩ | ⟨g,cap,cur,hv,hb,hg,hc,r⟩
 ·exact absurd (List.length_eq_zero_iff.1 hn) h0
 ·refine ⟨g,cap,hv,fun j u hu => ?_,hc⟩;have:=h.2.1.cells (g:=g) (by rw [hv]; rfl) j u hu;rw [zci,Nat.zero_add] at this;exact this
theorem zn0:∀ (f:Nat) (l:List UInt8) (p:Nat) (L:List Tok),l.length ≤ f → lexG l p = .good L → L ≠ []:=by
 intro f l p L _ h
 cases l with
 | nil => rw [ziG] at h; cases h; simp
 | cons c r =>
  cases hk:zc3 (c :: r) with
  | none => rw [zgf p AB hk] at h; cases h
  | some x =>
   obtain ⟨u,n⟩:=x;rw [zeM p hk] at h
   cases hg:lexG (((c :: r).drop n).dropWhile zbs) (p + n + (((c :: r).drop n).takeWhile zbs).length) with
   | bad q => rw [hg] at h; cases h
   | good L2 => rw [hg] at h; cases h; simp
theorem zhc {l:List UInt8} {L:List Tok} (h:za4 l = .good L):L ≠ []:=zn0 _ _ _ _ (LR _) h
abbrev Bs:=List UInt8
structure Hd where
 op:Bs
 pos:Nat
 table:Bs:=[]
 name:Bs:=[]
 n:Nat:=0
 scale:Nat:=0
 s:Bs:=[]
deriving DecidableEq
inductive Tree where
 | leaf (h:Hd)
 | un (h:Hd) (a:Tree)
 | bin (h:Hd) (a b:Tree)
deriving DecidableEq
structure PS where
 rest:List Tok
 pos:Nat
 e:Nat
def zTok:Tok:=⟨0,0,[],0,0⟩
def PS.now (s:PS):Tok:=s.rest.headD zTok
def PS.next (s:PS):PS:={ s with rest:=s.rest.tail }
def PS.fail (s:PS) (k:Nat):PS:=if s.e=0 then { s with pos:=s.now.pos,e:=k } else s
def isTok (t:Tok) (l:List Bs):Bool:=(decide (t.kind=1) || decide (t.kind=5)) && l.contains t.s
def PS.is (s:PS) (l:List Bs):Bool:=decide (s.e=0) && isTok s.now l
def PS.takes (s:PS) (w:Bs):Bool × PS:=if s.is [w]=true then (true,s.next) else (false,s)
def PS.want (s:PS) (w:Bs):PS:=if s.is [w]=true then s.next else s.fail 8
def PS.wants (s:PS) (l:List Bs):PS:=l.foldl PS.want s
def PS.of (s:PS) (k:Nat):Tok × Bool × PS:=if s.e=0 ∧ s.now.kind=k then (s.now,true,s.next) else (zTok,false,s.fail 8)
def PS.name (s:PS):Bs × PS:=((s.of 2).1.s,(s.of 2).2.2)
def PS.count (s:PS):Int × PS:=
 let s1:=if 0 < s.now.scale then s.fail 8 else s
 if (s1.of 3).2.1=true then ((s1.of 3).1.n,(s1.of 3).2.2) else (-1,(s1.of 3).2.2)
def zb5 (c:UInt8):UInt8:=if 65 ≤ c.toNat ∧ c.toNat ≤ 90 then c + 32 else c
def wPoint:Bs:=[46]
def wOpen:Bs:=[40]
def wShut:Bs:=[41]
def wStar:Bs:=[42]
def wMinus:Bs:=[45]
def wComma:Bs:=[44]
def wNot:Bs:=[78,79,84]
def wIs:Bs:=[73,83]
def wNull:Bs:=[78,85,76,76]
def wTrue:Bs:=[84,82,85,69]
def wFalse:Bs:=[70,65,76,83,69]
def wCount:Bs:=[67,79,85,78,84]
def wSum:Bs:=[83,85,77]
def wMin:Bs:=[77,73,78]
def wMax:Bs:=[77,65,88]
def oColumn:Bs:=[99,111,108,117,109,110]
def oNumber:Bs:=[110,117,109,98,101,114]
def oText:Bs:=[116,101,120,116]
def oBool:Bs:=[98,111,111,108]
def oNull:Bs:=[110,117,108,108]
def oCount:Bs:=[99,111,117,110,116]
def oAll:Bs:=[99,111,117,110,116,97,108,108]
def oNeg:Bs:=[110,101,103]
def oNot:Bs:=[110,111,116]
def oIs:Bs:=[105,115,110,117,108,108]
def oIsNot:Bs:=[110,111,116,110,117,108,108]
def emp:Tree:=.leaf ⟨[],0,[],[],0,0,[]⟩
abbrev PF:=PS → Tree × PS
structure Lvl where
 minus:PF
 not:PF
 expr:PF
def inF (sub:Option Lvl) (body:Lvl → PF) (d:Tree) (s:PS):Tree × PS:=
 match sub with
 | none => (d,s.fail 9)
 | some L => if s.e=0 then body L s.next else (d,s)
def zY (s:PS):Tree × PS:=
 let p:=s.name
 if (p.2.takes wPoint).1=true then (.leaf { op:=oColumn,pos:=s.now.pos,table:=p.1,name:=(p.2.takes wPoint).2.name.1 },(p.2.takes wPoint).2.name.2)
 else (.leaf { op:=oColumn,pos:=s.now.pos,name:=p.1 },(p.2.takes wPoint).2)
def zaE (sub:Option Lvl):PF:=inF sub (fun L s => ((L.expr s).1,(L.expr s).2.wants [wShut])) emp
def zK (sub:Option Lvl) (s:PS):Tree × PS:=
 let op:=s.now.s.map zb5
 inF sub (fun L s1 =>
  let s2:=s1.wants [wOpen]
  if op=oCount ∧ (s2.takes wStar).1=true then (.leaf { op:=oAll,pos:=s.now.pos },(s2.takes wStar).2.wants [wShut])
  else
   let s3:=if op=oCount then (s2.takes wStar).2 else s2
   (.un { op:=op,pos:=s.now.pos } (L.expr s3).1,(L.expr s3).2.wants [wShut])) (.leaf { op:=op,pos:=s.now.pos }) s
def zo (sub:Option Lvl) (s:PS):Tree × PS:=
 if s.e ≠ 0 then (emp,s)
 else if s.now.kind=3 then (.leaf { op:=oNumber,pos:=s.now.pos,n:=s.now.n,scale:=s.now.scale },s.next)
 else if s.now.kind=4 then (.leaf { op:=oText,pos:=s.now.pos,s:=s.now.s },s.next)
 else if s.now.kind=2 then zY s
 else if s.now.kind=1 ∧ s.now.s=wTrue then (.leaf { op:=oBool,pos:=s.now.pos,n:=1 },s.next)
 else if s.now.kind=1 ∧ s.now.s=wFalse then (.leaf { op:=oBool,pos:=s.now.pos },s.next)
 else if s.now.kind=1 ∧ s.now.s=wNull then (.leaf { op:=oNull,pos:=s.now.pos },s.next)
 else if s.now.kind=5 ∧ s.now.s=wOpen then zaE sub s
 else if s.now.kind=1 ∧ (s.now.s=wCount ∨ s.now.s=wSum ∨ s.now.s=wMin ∨ s.now.s=wMax) then zK sub s
 else (emp,s.fail 8)
def zR (sub:Option Lvl) (word op:Bs) (own:Lvl → PF) (rest:PF) (s:PS):Tree × PS:=
 if s.is [word]=true then inF sub (fun L s1 => (.un { op:=op,pos:=s.now.pos } (own L s1).1,(own L s1).2)) (.leaf { op:=op,pos:=s.now.pos }) s
 else rest s
def zaq (part:PF) (ws:List Bs):Nat → Tree → PS → Tree × PS
 | 0,x,s => (x,s)
 | n + 1,x,s => if s.is ws=true then zaq part ws n (.bin { op:=s.now.s.map zb5,pos:=s.now.pos } x (part s.next).1) (part s.next).2 else (x,s)
def zac (part:PF) (ws:List Bs) (s:PS):Tree × PS:=zaq part ws (part s).2.rest.length (part s).1 (part s).2
def zbo (sub:Option Lvl):PF:=zR sub wMinus oNeg Lvl.minus (zo sub)
def termF (sub:Option Lvl):PF:=zac (zbo sub) [wStar,[47]]
def zc6 (sub:Option Lvl):PF:=zac (termF sub) [[43],wMinus]
def relWords:List Bs:=[[61],[60,62],[60],[60,61],[62],[62,61]]
def zbg (sub:Option Lvl) (s:PS):Tree × PS:=
 let p:=zc6 sub s
 if p.2.is relWords=true then (.bin { op:=p.2.now.s,pos:=p.2.now.pos } p.1 (zc6 sub p.2.next).1,(zc6 sub p.2.next).2)
 else if (p.2.takes wIs).1=true then
  let t:=(p.2.takes wIs).2.takes wNot
  (.un { op:=if t.1=true then oIsNot else oIs,pos:=p.2.now.pos } p.1,t.2.wants [wNull])
 else (p.1,p.2)
def notF (sub:Option Lvl):PF:=zR sub wNot oNot Lvl.not (zbg sub)
def andF (sub:Option Lvl):PF:=zac (notF sub) [[65,78,68]]
def exprF (sub:Option Lvl):PF:=zac (andF sub) [[79,82]]
def mkLvl (sub:Option Lvl):Lvl:=⟨zbo sub,notF sub,exprF sub⟩
def lvl:Nat → Lvl
 | 0 => mkLvl none
 | f + 1 => mkLvl (some (lvl f))
def subOf:Nat → Option Lvl
 | 0 => none
 | f + 1 => some (lvl f)
theorem zfP (f:Nat):lvl f=mkLvl (subOf f):=by cases f <;> rfl
def WfT (r:List Tok):Prop:=(∃ t,r.getLast? = some t ∧ t.kind=0) ∧ ∀ t ∈ r,t.kind ≤ 5 ∧ t.s.length ≤ 5000
theorem WfT.ne {r:List Tok} (h:WfT r):r ≠ []:=by obtain ⟨⟨t,h,-⟩,-⟩:=h;intro h2; rw [h2] at h; cases h
theorem WfT.tail {t:Tok} {r:List Tok} (h:WfT (t :: r)) (hk:t.kind ≠ 0):WfT r:=by
 obtain ⟨⟨u,h1,h2⟩,h3⟩:=h
 cases r with
 | nil => simp at h1; subst h1; exact absurd h2 hk
 | cons a r => exact ⟨⟨u,by rw [List.getLast?_cons_cons] at h1; exact h1,h2⟩,fun t ht => h3 t (CM _ ht)⟩
theorem WfT.now {s:PS} (h:WfT s.rest):s.now.kind ≤ 5 ∧ s.now.s.length ≤ 5000:=by
 cases hr:s.rest with
 | nil => exact absurd hr h.ne
 | cons t r =>
  have hn:s.now=t:=by unfold PS.now; rw [hr]; rfl
  rw [hn];exact h.2 t BO
structure Aft (s s':PS):Prop where
 len:s'.rest.length ≤ s.rest.length
 wf:WfT s.rest → WfT s'.rest
 wf2:WfT s.rest.dropLast → WfT s'.rest.dropLast
 suf:s'.rest <:+ s.rest
 err:s.e ≠ 0 → s'=s
theorem Aft.refl (s:PS):Aft s s:=⟨LR _,id,id,List.suffix_refl _,fun _ => rfl⟩
theorem Aft.trans {a b c:PS} (h:Aft a b) (k:Aft b c):Aft a c:=
 ⟨Nat.le_trans k.len h.len,fun w => k.wf (h.wf w),fun w => k.wf2 (h.wf2 w),k.suf.trans h.suf,fun he => by have:=h.err he; rw [k.err (by rw [this]; exact he),this]⟩
theorem Aft.fail (s:PS) (k:Nat):Aft s (s.fail k):=by
 unfold PS.fail;split
 ·rename_i h; exact ⟨LR _,id,id,List.suffix_refl _,fun he => absurd h he⟩
 ·exact Aft.refl s
theorem Aft.next {s:PS} (he:s.e=0) (hk:s.now.kind ≠ 0):Aft s s.next:=by
 refine ⟨by simp [PS.next],fun w => ?_,fun w => ?_,List.tail_suffix _,fun h => absurd he h⟩
 ·unfold PS.next
  cases hr:s.rest with
  | nil => exact absurd hr w.ne
  | cons t r =>rw [hr] at w;exact w.tail (by unfold PS.now at hk; rw [hr] at hk; exact hk)
 ·unfold PS.next
  cases hr:s.rest with
  | nil => rw [hr] at w; exact absurd rfl w.ne
  | cons t r =>
   rw [hr] at w;have ht:t.kind ≠ 0:=by unfold PS.now at hk; rw [hr] at hk; exact hk
   cases r with
   | nil => exact absurd rfl w.ne
   | cons u r => exact WfT.tail (t:=t) (by simpa using w) ht
theorem zQ {s:PS} {l:List Bs} (h:s.is l=true):s.e=0 ∧ s.now.kind ≠ 0:=by unfold PS.is isTok at h;simp only [Bool.and_eq_true,decide_eq_true_eq,Bool.or_eq_true] at h;exact ⟨h.1,by omega⟩
theorem Aft.takes (s:PS) (w:Bs):Aft s (s.takes w).2:=by
 unfold PS.takes;split
 ·rename_i h; exact Aft.next (zQ h).1 (zQ h).2
 ·exact Aft.refl s
theorem Aft.want (s:PS) (w:Bs):Aft s (s.want w):=by
 unfold PS.want;split
 ·rename_i h; exact Aft.next (zQ h).1 (zQ h).2
 ·exact Aft.fail s _
theorem Aft.wants (l:List Bs):∀ s:PS,Aft s (s.wants l):=by
 induction l with
 | nil => exact fun s => Aft.refl s
 | cons w l ih => exact fun s => (Aft.want s w).trans (ih _)
theorem Aft.of (s:PS) (k:Nat) (hk:k ≠ 0):Aft s (s.of k).2.2:=by
 unfold PS.of;split
 ·rename_i h; exact Aft.next h.1 (by rw [h.2]; exact hk)
 ·exact Aft.fail s _
theorem Aft.name (s:PS):Aft s s.name.2:=Aft.of s 2 AD
def zbn (F:PF):Prop:=∀ s,Aft s (F s).2
theorem zhS {sub:Option Lvl} {body:Lvl → PF} {d:Tree} {s:PS} (hk:s.now.kind ≠ 0) (h:∀ L,sub=some L → zbn (body L)):Aft s (inF sub body d s).2:=by
 unfold inF;split
 ·exact Aft.fail s _
 ·rename_i L
  split
  ·rename_i he; exact (Aft.next he hk).trans (h L rfl _)
  ·exact Aft.refl s
theorem zaV:zbn zY:=by
 intro s;unfold zY;simp only;split
 ·exact ((Aft.name s).trans (Aft.takes _ _)).trans (Aft.name _)
 ·exact (Aft.name s).trans (Aft.takes _ _)
structure LvlGoes (L:Lvl):Prop where
 minus:zbn L.minus
 not:zbn L.not
 expr:zbn L.expr
def zaF (sub:Option Lvl):Prop:=∀ L,sub=some L → LvlGoes L
theorem zhd {sub:Option Lvl} (h:zaF sub) {s:PS} (hk:s.now.kind ≠ 0):Aft s (zaE sub s).2:=
 zhS hk fun L hL s => ((h L hL).expr s).trans (Aft.wants _ _)
theorem zgr {sub:Option Lvl} (h:zaF sub) {s:PS} (hk:s.now.kind ≠ 0):Aft s (zK sub s).2:=by
 unfold zK;refine zhS hk fun L hL s1 => ?_;simp only;split
 ·exact ((Aft.wants _ _).trans (Aft.takes _ _)).trans (Aft.wants _ _)
 ·split
  ·exact (((Aft.wants _ _).trans (Aft.takes _ _)).trans ((h L hL).expr _)).trans (Aft.wants _ _)
  ·exact ((Aft.wants _ _).trans ((h L hL).expr _)).trans (Aft.wants _ _)
theorem zhe {sub:Option Lvl} (h:zaF sub):zbn (zo sub):=by
 intro s;unfold zo;split
 ·exact Aft.refl s
 rename_i he
 have he:s.e=0:=by simpa using he
 split
 ·rename_i hk; exact Aft.next he AA
 split
 ·rename_i hk; exact Aft.next he AA
 split
 ·exact zaV s
 split
 ·rename_i hk; exact Aft.next he AA
 split
 ·rename_i hk; exact Aft.next he AA
 split
 ·rename_i hk; exact Aft.next he AA
 split
 ·rename_i hk; exact zhd h AA
 split
 ·rename_i hk; exact zgr h AA
 ·exact Aft.fail s _
theorem zeT {sub:Option Lvl} {w op:Bs} {own:Lvl → PF} {rest:PF} (h1:∀ L,sub=some L → zbn (own L)) (h2:zbn rest):zbn (zR sub w op own rest):=by
 intro s;unfold zR;split
 ·rename_i h
  exact zhS (zQ h).2 fun L hL s1 => h1 L hL s1
 ·exact h2 s
theorem zdV {part:PF} (h:zbn part) (ws:List Bs):∀ (n:Nat) (x:Tree),zbn (zaq part ws n x):=by
 intro n
 induction n with
 | zero => intro x s; exact Aft.refl s
 | succ n ih =>
  intro x s;unfold zaq;split
  ·rename_i hi
   exact ((Aft.next (zQ hi).1 (zQ hi).2).trans (h _)).trans (ih _ _)
  ·exact Aft.refl s
theorem zdq {part:PF} (h:zbn part) (ws:List Bs):zbn (zac part ws):=fun s => (h s).trans (zdV h ws _ _ _)
theorem zkA {sub:Option Lvl} (h:zbn (zc6 sub)):zbn (zbg sub):=by
 intro s;unfold zbg;simp only;split
 ·rename_i hi
  exact ((h s).trans (Aft.next (zQ hi).1 (zQ hi).2)).trans (h _)
 split
 ·exact (((h s).trans (Aft.takes _ _)).trans (Aft.takes _ _)).trans (Aft.wants _ _)
 ·exact h s
theorem zbG {sub:Option Lvl} (h:zaF sub):zbn (zbo sub):=zeT (fun L hL => (h L hL).minus) (zhe h)
theorem zdr {sub:Option Lvl} (h:zaF sub):zbn (termF sub):=zdq (zbG h) _
theorem zes {sub:Option Lvl} (h:zaF sub):zbn (zc6 sub):=zdq (zdr h) _
theorem zcO {sub:Option Lvl} (h:zaF sub):zbn (notF sub):=zeT (fun L hL => (h L hL).not) (zkA (zes h))
theorem zet {sub:Option Lvl} (h:zaF sub):zbn (andF sub):=zdq (zcO h) _
theorem zhf {sub:Option Lvl} (h:zaF sub):zbn (exprF sub):=zdq (zet h) _
theorem zcP (f:Nat):LvlGoes (lvl f):=by
 induction f with
 | zero => exact ⟨zbG (fun L h => by cases h),zcO (fun L h => by cases h),zhf (fun L h => by cases h)⟩
 | succ f ih =>
  have h:zaF (some (lvl f)):=fun L h => by cases h; exact ih
  exact ⟨zbG h,zcO h,zhf h⟩
theorem zmu (f:Nat):zaF (subOf f):=by
 cases f with
 | zero => intro L h; cases h
 | succ f => intro L h; cases h; exact zcP f
theorem zjw {part:PF} (h:zbn part) (ws:List Bs):∀ (n m:Nat) (x:Tree) (s:PS),WfT s.rest → s.rest.length ≤ n → s.rest.length ≤ m → zaq part ws n x s=zaq part ws m x s:=by
 intro n
 induction n with
 | zero =>intro m x s hw hn hm;exact absurd (List.length_eq_zero_iff.1 AA) hw.ne
 | succ n ih =>
  intro m x s hw hn hm
  cases m with
  | zero => exact absurd (List.length_eq_zero_iff.1 AA) hw.ne
  | succ m =>
   unfold zaq;split
   ·rename_i hi
    have hA:=Aft.next (zQ hi).1 (zQ hi).2;have hB:=h s.next;have hl:s.next.rest.length + 1=s.rest.length:=by
     unfold PS.next
     cases hr:s.rest with
     | nil => exact absurd hr hw.ne
     | cons t r => simp
    exact ih m _ _ (hB.wf (hA.wf hw)) (by have:=hB.len; omega) (by have:=hB.len; omega)
   ·rfl
def TkIn (w:World) (g:Nat) (l:Value) (rest:List Tok):Prop:=
 ∃ off cap,l = .slice (some ⟨g,off,none⟩) rest.length cap ∧ rest.length ≤ cap ∧ cap ≤ 9223372036854775807 ∧ ∀ j u,(zc5 rest)[j]? = some u → w.cell? ⟨g,off + j,none⟩ = some u
theorem TkIn.mods {w w':World} {g:Nat} {l:Value} {rest:List Tok} {L:List Nat} (h:TkIn w g l rest) (hM:Mods L w w') (hg:g ∉ L):TkIn w' g l rest:=by obtain ⟨off,cap,h1,h3,h4,h5⟩:=h;exact ⟨off,cap,h1,h3,h4,fun j u hu => hM.cell (h5 j u hu) hg⟩
def PSt (w:World) (pb tg:Nat) (s:PS) (f:Nat):Prop:=
 ∃ l,w.heap[pb]? = some (.cells #[l,.int .i64 (64 - (f:Int)),.int .i64 s.pos,.int .i64 s.e] 99 (0,0)) ∧ TkIn w tg l s.rest ∧ WfT s.rest ∧ f ≤ 64 ∧ tg ≠ pb
theorem PSt.mods {w w':World} {pb tg:Nat} {s:PS} {f:Nat} {L:List Nat} (h:PSt w pb tg s f) (hM:Mods L w w') (h1:pb ∉ L) (h2:tg ∉ L):PSt w' pb tg s f:=by obtain ⟨l,q1,q2,q3⟩:=h;exact ⟨l,hM.heap q1 h1,q2.mods hM h2,q3⟩
theorem PSt.later {w w':World} {pb tg:Nat} {s:PS} {f:Nat} (h:PSt w pb tg s f) (hM:Mods [] w w'):PSt w' pb tg s f:=h.mods hM AB AB
theorem PSt.lt {w:World} {pb tg:Nat} {s:PS} {f:Nat} (h:PSt w pb tg s f):pb < w.heap.size ∧ tg < w.heap.size:=by
 obtain ⟨l,q1,⟨off,cap,-,-,-,q2⟩,q3,-⟩:=h;refine ⟨zj q1,?_⟩
 cases hr:s.rest with
 | nil => exact absurd hr q3.ne
 | cons t r =>rw [hr] at q2;exact zD (q2 0 _ rfl)
def hdC (h:Hd) (args:Value):List Value:=[.string ⟨h.op.toArray⟩,.int .i64 h.pos,.string ⟨h.table.toArray⟩,.string ⟨h.name.toArray⟩,.int .i64 h.n,.int .i64 h.scale,.string ⟨h.s.toArray⟩,args]
def zh (b:Nat):Value:=.pointer (some ⟨b,0,none⟩)
def ExprAt (T T2:TypeId) (w:World) (L:List Nat) (v:Value):Tree → Prop
 | .leaf h => ∃ b,v=zh b ∧ b ∉ L ∧ w.heap[b]? = some (.cells (hdC h (.slice none 0 0)).toArray T (0,0))
 | .un h a => ∃ b c u,v=zh b ∧ b ∉ L ∧ c ∉ L ∧ w.heap[b]? = some (.cells (hdC h (.slice (some ⟨c,0,none⟩) 1 1)).toArray T (0,0)) ∧ w.heap[c]? = some (.cells #[u] T2 (0,0)) ∧ ExprAt T T2 w L u a
 | .bin h a d => ∃ b c u x,v=zh b ∧ b ∉ L ∧ c ∉ L ∧ w.heap[b]? = some (.cells (hdC h (.slice (some ⟨c,0,none⟩) 2 2)).toArray T (0,0)) ∧ w.heap[c]? = some (.cells #[u,x] T2 (0,0)) ∧ ExprAt T T2 w L u a ∧ ExprAt T T2 w L x d
theorem ExprAt.mods {T T2:TypeId} {w w':World} {L:List Nat} (hM:Mods L w w'):∀ {t:Tree} {v:Value},ExprAt T T2 w L v t → ExprAt T T2 w' L v t:=by
 intro t
 induction t with
 | leaf h =>rintro v ⟨b,h1,h2,h3⟩;exact ⟨b,h1,h2,hM.heap h3 h2⟩
 | un h a ih =>rintro v ⟨b,c,u,h1,h2,h3,h4,h5,h6⟩;exact ⟨b,c,u,h1,h2,h3,hM.heap h4 h2,hM.heap h5 h3,ih h6⟩
 | bin h a d iha ihd =>rintro v ⟨b,c,u,x,h1,h2,h3,h4,h5,h6,h7⟩;exact ⟨b,c,u,x,h1,h2,h3,hM.heap h4 h2,hM.heap h5 h3,iha h6,ihd h7⟩
theorem ExprAt.weaken {T T2:TypeId} {w:World} {L L':List Nat} (hL:∀ x ∈ L',x ∈ L):∀ {t:Tree} {v:Value},ExprAt T T2 w L v t → ExprAt T T2 w L' v t:=by
 intro t
 induction t with
 | leaf h =>rintro v ⟨b,h1,h2,h3⟩;exact ⟨b,h1,fun hm => h2 (hL _ hm),h3⟩
 | un h a ih =>rintro v ⟨b,c,u,h1,h2,h3,h4,h5,h6⟩;exact ⟨b,c,u,h1,fun hm => h2 (hL _ hm),fun hm => h3 (hL _ hm),h4,h5,ih h6⟩
 | bin h a d iha ihd =>rintro v ⟨b,c,u,x,h1,h2,h3,h4,h5,h6,h7⟩;exact ⟨b,c,u,x,h1,fun hm => h2 (hL _ hm),fun hm => h3 (hL _ hm),h4,h5,iha h6,ihd h7⟩
def PRes (pb tg f:Nat) (F:PF) (s:PS) (w:World) (e:Ending) (w':World):Prop:=
 ∃ b,e = .returned (zh b) ∧ Mods [pb] w w' ∧ PSt w' pb tg (F s).2 f ∧ ((F s).2.e=0 → ∀ L:List Nat,(∀ x ∈ L,x < w.heap.size) → ExprAt 175 107 w' L (zh b) (F s).1)
theorem PSt.tok {w:World} {pb tg:Nat} {s:PS} {f:Nat} (h:PSt w pb tg s f):∃ off cap,w.heap[pb]? = some (.cells #[.slice (some ⟨tg,off,none⟩) s.rest.length cap,.int .i64 (64 - (f:Int)),.int .i64 s.pos,.int .i64 s.e] 99 (0,0)) ∧ tg ≠ pb ∧ 0 < s.rest.length ∧ s.rest.length ≤ cap ∧ cap ≤ 9223372036854775807 ∧
  w.cell? ⟨tg,off,none⟩ = some (.int .i64 s.now.kind) ∧ w.cell? ⟨tg,off + 1,none⟩ = some (.int .i64 s.now.pos) ∧ w.cell? ⟨tg,off + 2,none⟩ = some (.string ⟨s.now.s.toArray⟩) ∧ w.cell? ⟨tg,off + 3,none⟩ = some (.int .i64 s.now.n) ∧ w.cell? ⟨tg,off + 4,none⟩ = some (.int .i64 s.now.scale):=by
 obtain ⟨l,h1,⟨off,cap,rfl,h3,h4,h5⟩,h6,h7,h8⟩:=h
 cases hr:s.rest with
 | nil => exact absurd hr h6.ne
 | cons t r =>
  have hn:s.now=t:=by unfold PS.now; rw [hr]; rfl
  rw [hn];rw [hr] at h5 h1 h3;exact ⟨off,cap,h1,h8,by simp,h3,h4,h5 0 _ rfl,h5 1 _ rfl,h5 2 _ rfl,h5 3 _ rfl,h5 4 _ rfl⟩
theorem PSt.turn {w w':World} {pb tg:Nat} {s s':PS} {f f':Nat} {off cap:Nat} (h:PSt w pb tg s f) (hM:Mods [pb] w w') (hc:w.heap[pb]? = some (.cells #[.slice (some ⟨tg,off,none⟩) s.rest.length cap,.int .i64 (64 - (f:Int)),.int .i64 s.pos,.int .i64 s.e] 99 (0,0))) (hr:s'.rest=s.rest) (hf:f' ≤ 64)
  (h':w'.heap[pb]? = some (.cells #[.slice (some ⟨tg,off,none⟩) s.rest.length cap,.int .i64 (64 - (f':Int)),.int .i64 s'.pos,.int .i64 s'.e] 99 (0,0))):PSt w' pb tg s' f':=by
 obtain ⟨l,h1,h2,h3,h4,h5⟩:=h;rw [h1] at hc;simp only [Option.some.injEq,Obj.cells.injEq,Array.mk.injEq,List.cons.injEq,and_true] at hc;obtain ⟨rfl⟩:=hc;exact ⟨_,h',by rw [hr]; exact h2.mods hM (by simpa using h5),by rw [hr]; exact h3,hf,h5⟩
theorem PSt.passed {w w':World} {pb tg:Nat} {s:PS} {f:Nat} {off cap:Nat} (h:PSt w pb tg s f) (hM:Mods [pb] w w') (hc:w.heap[pb]? = some (.cells #[.slice (some ⟨tg,off,none⟩) s.rest.length cap,.int .i64 (64 - (f:Int)),.int .i64 s.pos,.int .i64 s.e] 99 (0,0))) (hw:WfT s.rest.tail)
  (h':w'.heap[pb]? = some (.cells #[.slice (some ⟨tg,off + 5,none⟩) (s.rest.length - 1) (cap - 1),.int .i64 (64 - (f:Int)),.int .i64 s.pos,.int .i64 s.e] 99 (0,0))):PSt w' pb tg s.next f:=by
 obtain ⟨l,h1,h2,h3,h4,h5⟩:=h;rw [h1] at hc;simp only [Option.some.injEq,Obj.cells.injEq,Array.mk.injEq,List.cons.injEq,and_true] at hc;obtain ⟨rfl⟩:=hc;obtain ⟨off',cap',he,h6,h7,h8⟩:=h2.mods hM (by simpa using h5);simp only [Value.slice.injEq,Option.some.injEq,Addr.mk.injEq,and_true,true_and] at he;obtain ⟨rfl,rfl⟩:=he;refine ⟨_,h',⟨off + 5,cap - 1,by unfold PS.next; rw [List.length_tail],by unfold PS.next; rw [List.length_tail]; omega,by omega,fun j u hu => ?_⟩,hw,h4,h5⟩
 cases hr:s.rest with
 | nil => exact absurd hr h3.ne
 | cons t r =>
  have hn:s.next.rest=r:=by unfold PS.next; rw [hr]; rfl
  rw [hn] at hu
  have:=h8 (5 + j) u (by
   rw [hr];show (zdl t ++ zc5 r)[5 + j]? = _;rw [List.getElem?_append_right (by simp [zdl])]
   simpa [zdl] using hu)
  rw [show off + 5 + j=off + (5 + j) by omega];exact this
end Go.Proofs.YtebljciefhfgbaaGreatDoor
