/- The walk of sum.turn: a rotation to the right. -/
import Derived.Test.YtinhjnbgblieeaaDoorChecked
import Derived.Test.YtinhjnbgblieeaaDoorKit
import Derived.Test.YtinhjnbgblieeaaDoorShaLaw
namespace Go.Proofs.YtinhjnbgblieeaaDoor
open Go.RowKit
set_option linter.unusedVariables false

set_option maxRecDepth 100000 in
set_option maxHeartbeats 400000 in
theorem turn_nat (x : Int) (n : Nat) (w : World) (hx : 0 ≤ x ∧ x < 4294967296) (hn : 1 ≤ n ∧ n ≤ 31) :
    Calls Tryd.prog 82 #[.int .u32 x, .int .u64 n] w fun e w' => e = .returned (.int .u32 (turnF x n)) ∧ w = w' := by
  go_enter Tryd.func82, Tryd.ntmps82
  go_wp2_with fail
  go_ret
  exact ⟨rfl, rfl⟩
theorem turn_any (x n : Int) (w : World) (hx : isU x) (hn : 1 ≤ n ∧ n ≤ 31) :
    Calls Tryd.prog 82 #[.int .u32 x, .int .u64 n] w fun e w' => e = .returned (.int .u32 (turnF x n)) ∧ w = w' := by
  have := turn_nat x n.toNat w hx (by omega)
  rwa [Int.toNat_of_nonneg (by omega)] at this
end Go.Proofs.YtinhjnbgblieeaaDoor
