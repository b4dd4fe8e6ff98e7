/-
  check.typed, walked: some operators. No condition but that Go's own variables hold what they were laid with.
-/
import Derived.Test.YtebljciefhfgbaaGreatDoorQ21
set_option linter.unusedVariables false
namespace Go.Proofs.YtebljciefhfgbaaGreatDoor
open Go.RowKit
set_option maxRecDepth 100000 in
set_option maxHeartbeats 4000000 in
theorem zeK (w:World) (hV:CkVars w) (op:Bs) (us:List Value) (ts:List Ty) (n:Nat) (hn:us.length=n) (htn:ts.length=n) (hn2:n ≤ 2) (ao:Option Addr) (cap:Nat)
  (hao:0 < n → ∃ c,ao=some ⟨c,0,none⟩ ∧ ∀ i (hi:i < us.length),w.cell? ⟨c,i,none⟩ = some us[i])
  (hop:op=oMax ∨ op=oIs ∨ op=oIsNot ∨ op=oNot ∨ op=oAnd)
  (har:(op=oPlus ∨ op=oMinus ∨ op=oTimes ∨ op=oOver) → (ts.getD 0 tyNone).Right ∧ (ts.getD 1 tyNone).Right)
  (hts:∀ i (hi:i < us.length) (hx:i < ts.length),∃ nb,us[i]=zh nb ∧ w.cell? ⟨nb,1,none⟩ = some (.int .i64 ts[i].k) ∧ w.cell? ⟨nb,2,none⟩ = some (.int .i64 ts[i].s)) :
  Calls Tryz.prog 99 #[.string ⟨op.toArray⟩,.slice ao n cap] w (RuleRes (zx op (ts.getD 0 tyNone) (ts.getD 1 tyNone)) w):=by
 have gFG:=QH trivial;exact yfr
end Go.Proofs.YtebljciefhfgbaaGreatDoor
