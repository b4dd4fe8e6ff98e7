/-
  check.typed, walked: what compares. No condition but that Go's own variables hold what they were laid with.
-/
import Derived.Test.YtebljciefhfgbaaGreatDoorCkLb
import Derived.Test.YtebljciefhfgbaaGreatDoorCkLc
set_option linter.unusedVariables false
namespace Go.Proofs.YtebljciefhfgbaaGreatDoor
open Go.RowKit
theorem AQ {p:Prop} (h:p:=by simp [h]):p:=h
theorem yct {p:Prop} (h:p:=by
  intro bb;obtain ⟨F1,F2,F3,F4,F5,F6,F7,K1,K2⟩:=FF.out bb;have HK1:=QH K1;have HK2:=QH K2;clear K1 K2;dsimp only [nop,List.set];(repeat go_big_quiet_step (first | with_reducible exact HK1.out _ | with_reducible exact HK2.out _));refine QW ?_;exact rfl
 ):p:=h
theorem yaf {p:Prop} (h:p:=by
  cases na with
  | false =>have gDg:=QH trivial;exact yej
  | true =>
   cases nb with
   | false =>have gDh:=QH trivial;exact yej
   | true =>have gDi:=QH trivial;exact yej
 ):p:=h
set_option maxRecDepth 100000 in
set_option maxHeartbeats 16000000 in
theorem zoa (w:World) (hV:CkVars w) (op:Bs) (us:List Value) (ts:List Ty) (n:Nat) (hn:us.length=n) (htn:ts.length=n) (hn2:n ≤ 2) (ao:Option Addr) (cap:Nat)
  (hao:0 < n → ∃ c,ao=some ⟨c,0,none⟩ ∧ ∀ i (hi:i < us.length),w.cell? ⟨c,i,none⟩ = some us[i])
  (hrel:op ∈ rels)
  (har:(op=oPlus ∨ op=oMinus ∨ op=oTimes ∨ op=oOver) → (ts.getD 0 tyNone).Right ∧ (ts.getD 1 tyNone).Right)
  (hts:∀ i (hi:i < us.length) (hx:i < ts.length),∃ nb,us[i]=zh nb ∧ w.cell? ⟨nb,1,none⟩ = some (.int .i64 ts[i].k) ∧ w.cell? ⟨nb,2,none⟩ = some (.int .i64 ts[i].s)) :
  Calls Tryz.prog 99 #[.string ⟨op.toArray⟩,.slice ao n cap] w (RuleRes (zx op (ts.getD 0 tyNone) (ts.getD 1 tyNone)) w):=by
 have gFI:=QH trivial;exact yfr
theorem zhv (w:World) (hV:CkVars w) (op:Bs) (us:List Value) (ts:List Ty) (n:Nat) (hn:us.length=n) (htn:ts.length=n) (hn2:n ≤ 2) (ao:Option Addr) (cap:Nat)
  (hao:0 < n → ∃ c,ao=some ⟨c,0,none⟩ ∧ ∀ i (hi:i < us.length),w.cell? ⟨c,i,none⟩ = some us[i])
  (hop:op=oAll ∨ op=oCount ∨ op=oNeg ∨ op=oSum ∨ op=oMin ∨ op=oMax ∨ op=oIs ∨ op=oIsNot ∨ op=oNot ∨ op=oAnd ∨ op=oOr ∨ op=oPlus ∨ op=oMinus ∨ op=oTimes ∨ op=oOver ∨ op ∈ rels)
  (har:(op=oPlus ∨ op=oMinus ∨ op=oTimes ∨ op=oOver) → (ts.getD 0 tyNone).Right ∧ (ts.getD 1 tyNone).Right)
  (hts:∀ i (hi:i < us.length) (hx:i < ts.length),∃ nb,us[i]=zh nb ∧ w.cell? ⟨nb,1,none⟩ = some (.int .i64 ts[i].k) ∧ w.cell? ⟨nb,2,none⟩ = some (.int .i64 ts[i].s)) :
  Calls Tryz.prog 99 #[.string ⟨op.toArray⟩,.slice ao n cap] w (RuleRes (zx op (ts.getD 0 tyNone) (ts.getD 1 tyNone)) w):=by
 rcases hop with h | h | h | h | h | h | h | h | h | h | h | h | h | h | h | h
 ·exact zeJ w hV op us ts n hn htn hn2 ao cap hao AQ har hts
 ·exact zeJ w hV op us ts n hn htn hn2 ao cap hao AQ har hts
 ·exact zeJ w hV op us ts n hn htn hn2 ao cap hao AQ har hts
 ·exact zeJ w hV op us ts n hn htn hn2 ao cap hao AQ har hts
 ·exact zeJ w hV op us ts n hn htn hn2 ao cap hao AQ har hts
 ·exact zeK w hV op us ts n hn htn hn2 ao cap hao AQ har hts
 ·exact zeK w hV op us ts n hn htn hn2 ao cap hao AQ har hts
 ·exact zeK w hV op us ts n hn htn hn2 ao cap hao AQ har hts
 ·exact zeK w hV op us ts n hn htn hn2 ao cap hao AQ har hts
 ·exact zeK w hV op us ts n hn htn hn2 ao cap hao AQ har hts
 ·exact zeL w hV op us ts n hn htn hn2 ao cap hao AQ har hts
 ·exact zeL w hV op us ts n hn htn hn2 ao cap hao AQ har hts
 ·exact zeL w hV op us ts n hn htn hn2 ao cap hao AQ har hts
 ·exact zeL w hV op us ts n hn htn hn2 ao cap hao AQ har hts
 ·exact zeL w hV op us ts n hn htn hn2 ao cap hao AQ har hts
 ·exact zoa w hV op us ts n hn htn hn2 ao cap hao h har hts
end Go.Proofs.YtebljciefhfgbaaGreatDoor
