/-
  check.expr, walked: of an operator that is an aggregate. No condition but that Go's own variables hold what they were laid with.
-/
import Derived.Test.YtcabeljiobiojaaGreatDoorQ26
import Derived.Outline
set_option linter.unusedVariables false
namespace Go.Proofs.YtcabeljiobiojaaGreatDoor
open Go.RowKit
set_option maxRecDepth 100000 in
set_option maxHeartbeats 8000000 in
theorem zmb (w:World) (hV:CkVars w) (sb:Nat) (cv:Value) (mb d pos e:Nat) (env:List EC) (hd:d ≤ 1000000) (hsg : 0 ≠ sb ∧ 2 ≠ sb) (hS:Scope w sb cv mb d pos e env) (xb:Nat) (t:Tree) (hOp:OpT t) (va:Value) (hx:w.heap[xb]? = some (.cells (hdC t.hd va).toArray 171 (0,0))) (hne:xb ≠ sb)
  (hcn:zS t.hd=none) (hnc:t.hd.op ≠ oColumn) (hag:aggOpB t.hd.op=true) (us:List Value) (n:Nat) (hn:t.args.length=n) (hun:us.length=n) (hn2:n ≤ 2) (ao:Option Addr) (hva:va = .slice ao n n)
  (hao:0 < n → ∃ c,ao=some ⟨c,0,none⟩ ∧ c ≠ sb ∧ ∀ i (hi:i < us.length),w.cell? ⟨c,i,none⟩ = some us[i])
  (hsub:∀ i (hi:i < us.length) (ha:i < t.args.length) W pos' e',Mods [sb] w W → zaX W sb cv mb (zy d t.hd) pos' e' → Calls Tryz.prog 67 #[zh sb,us[i]] W (ERes W sb cv mb (zy d t.hd) pos' e' env (zq env t.args[i] (zy d t.hd))))
  (hop:t.hd.op=oAll ∨ t.hd.op=oCount ∨ t.hd.op=oNeg ∨ t.hd.op=oSum ∨ t.hd.op=oMin ∨ t.hd.op=oMax ∨ t.hd.op=oIs ∨ t.hd.op=oIsNot ∨ t.hd.op=oNot ∨ t.hd.op=oAnd ∨ t.hd.op=oOr ∨ t.hd.op=oPlus ∨ t.hd.op=oMinus ∨ t.hd.op=oTimes ∨ t.hd.op=oOver ∨ t.hd.op ∈ rels)
  (hri:(t.hd.op=oPlus ∨ t.hd.op=oMinus ∨ t.hd.op=oTimes ∨ t.hd.op=oOver) → ∀ xs,zcY env (zy d t.hd) t.args = .ok xs → (zcy xs 0).Right ∧ (zcy xs 1).Right) :
  Calls Tryz.prog 67 #[zh sb,zh xb] w (ERes w sb cv mb d pos e env (zq env t d)):=by
 have HSB:=QH hsg;clear hsg;have hc:=zbX w hV xb t.hd va hx;rw [hcn] at hc;have hdd:zy d t.hd=d + 1:=by unfold zy; rw [hag]; rfl
 rw [hdd] at hsub hri;have x0:=za hx 0;change w.cell? _=some (.string ⟨t.hd.op.toArray⟩) at x0;obtain ⟨S,hSS⟩:=EX ((⟨t.hd.op.toArray⟩ : ByteArray):ByteArray);have hnc2:(t.hd.op == [99,111,108,117,109,110])=false:=zhq hnc;have hnc3:¬ S = ⟨#[99,111,108,117,109,110]⟩:=fun h => hnc (show t.hd.op=([99,111,108,117,109,110]:List UInt8) from by have:=congrArg (fun b:ByteArray => b.data.toList) (hSS.trans h); simpa using this);have hnc4:(S.toList == [99,111,108,117,109,110])=false:=by rw [← hSS,ByteArray.toList_eq]; exact hnc2
 have hnc5:¬ S.toList=[99,111,108,117,109,110]:=by rw [beq_eq_false_iff_ne] at hnc4; exact hnc4
 have hgg:=fun W => zan W t.hd.op;rw [hag,hSS] at hgg;rw [hSS] at x0;obtain ⟨PP,hPP⟩:=EX (ERes w sb cv mb d pos e env (zq env t d));rw [hPP];have HH:=QH (AI hPP (AI hS (AI hx (AI hV (AI hsub (AI hop (AI hri (AI hSS (AI hdd (AI hOp (AI hag (AI hn (AI hun (AI hao hva))))))))))))));clear hPP hS hx hV hsub hop hri hSS hdd hOp hag hn hun hcn hnc hnc2;unfold zh at *;have HGG:=QH hgg;clear hgg hao hva;have gBf:=QH trivial;exact ydn
end Go.Proofs.YtcabeljiobiojaaGreatDoor
