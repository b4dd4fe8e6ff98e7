/-
  page.Row's inner function: the number that stands in a slot of the row.
-/
import Derived.Test.YtagpnalhilgcpaaPagH
namespace Go.Proofs.Ytagpnalhilgcpaa
open Go.RowKit
set_option linter.unusedVariables false

set_option maxHeartbeats 1000000 in
set_option maxRecDepth 100000 in
theorem rowLoad_any (w : World) (b nP : Nat) (most : Int) (f : Nat → UInt8) (L : List Nat) (h : Mem w b nP most f L) (hnP : nP ≤ 256) (pm pa : Nat) (hm : w.cell? ⟨pm, 0, none⟩ = some (.pointer (some ⟨b, 0, none⟩))) (a : Nat) (hpa : w.cell? ⟨pa, 0, none⟩ = some (.int .u64 a))
    (k : Nat) (hk : k ≤ 64) (hin : a + 8 * k + 8 ≤ 65536 * nP) :
    Calls Try.prog 50 #[.int .i64 k, .pointer (some ⟨pm, 0, none⟩), .pointer (some ⟨pa, 0, none⟩)] w fun e w' => e = .returned (.int .u64 ((num (fun j => f (a + 8 * k + j)) 8 : Nat) : Int)) ∧ Mods [] w w' := by
  have e1 : IntKind.u64.wrap ((a : Int) + 8 * (k : Int)) = ((a + 8 * k : Nat) : Int) := by rw [IntKind.wrap_u64]; omega
  have hok : (wOK 8 && hasB nP ((a + 8 * k : Nat) : Int) 8) = true := by
    have h1 : hasB nP ((a + 8 * k : Nat) : Int) 8 = true := decide_eq_true (by omega)
    rw [h1]; rfl
  have hl := load_ok w b nP most f L (a + 8 * k) 8 h hnP hok
  go_enter Try.func50, Try.ntmps50
  go_wp2_with fail
  refine hl.mono ?_
  rintro e w2 ⟨rfl, hM⟩
  go_wp2_with fail
  go_ret
  exact ⟨rfl, hM⟩
end Go.Proofs.Ytagpnalhilgcpaa
