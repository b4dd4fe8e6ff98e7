/-
  The document's Put, whole.
-/
import Derived.Test.YtagpnalhilgcpaaPutB
namespace Go.Proofs.Ytagpnalhilgcpaa
open Go.RowKit
set_option linter.unusedVariables false

set_option maxHeartbeats 4000000 in
set_option maxRecDepth 100000 in
theorem refput_bad (w : World) (nT nR : Nat) (ts : List (Int × Int)) (rs : List (List V)) (hts : ts.length = nT) (tao rao : Option Addr) (ct cr : Nat) (at_ : Int) (ha0 : -9223372036854775808 ≤ at_) (ha1 : at_ ≤ 9223372036854775807) (hnT : nT ≤ 9223372036854775807)
    (hbad : 64 < nT ∨ at_ < 0 ∨ 16777216 < at_) :
    Calls Try.prog 28 #[.slice tao nT ct, .slice rao nR cr, .int .i64 at_] w (PgPost w at_ ts rs) := by
  have fin : PgPost w at_ ts rs (.returned (.tuple #[.string ⟨#[]⟩, .int .i64 1])) w := by
    unfold PgPost
    rw [putE_bad (by rw [hts]; exact hbad)]
    exact ⟨rfl, Mods.refl _ _⟩
  go_enter Try.func28, Try.ntmps28
  rcases hbad with h | h | h
  · have h' : (64 : Int) < nT := by omega
    go_wp2_with fail
    go_ret2
    exact fin
  · by_cases h1 : (64 : Int) < nT
    · go_wp2_with fail
      go_ret2
      exact fin
    · go_wp2_with fail
      go_ret2
      exact fin
  · by_cases h1 : (64 : Int) < nT
    · go_wp2_with fail
      go_ret2
      exact fin
    · have h2 : ¬ at_ < 0 := by omega
      go_wp2_with fail
      go_ret2
      exact fin

theorem refput_any (w : World) (ts : List (Int × Int)) (rs : List (List V)) (tao rao : Option Addr) (ct cr : Nat) (hT : TysIn w tao ts []) (hR : RowsIn w rao rs []) (hok : ∀ vs ∈ rs, vs.length ≤ 9223372036854775807 ∧ ∀ v ∈ vs, v.ok)
    (at_ : Int) (ha0 : -9223372036854775808 ≤ at_) (ha1 : at_ ≤ 9223372036854775807) (hnT : ts.length ≤ 9223372036854775807) (hnR : rs.length ≤ 1100000) :
    Calls Try.prog 28 #[.slice tao ts.length ct, .slice rao rs.length cr, .int .i64 at_] w (PgPost w at_ ts rs) := by
  by_cases hbad : 64 < ts.length ∨ at_ < 0 ∨ 16777216 < at_
  · exact refput_bad w _ _ ts rs rfl tao rao ct cr at_ ha0 ha1 hnT hbad
  · obtain ⟨a, rfl⟩ := Int.eq_ofNat_of_zero_le (show 0 ≤ at_ by omega)
    exact refput_good w _ _ ts rs rfl rfl tao rao ct cr hT hR hok a (by omega) (by omega) hnR
end Go.Proofs.Ytagpnalhilgcpaa
