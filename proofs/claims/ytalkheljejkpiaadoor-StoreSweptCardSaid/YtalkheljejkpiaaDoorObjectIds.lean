/- The walk of ObjectIds. -/
import Derived.Test.YtalkheljejkpiaaDoorObB
import Derived.Test.YtalkheljejkpiaaDoorSha
namespace Go.Proofs.YtalkheljejkpiaaDoor
open Go.RowKit
set_option linter.unusedVariables false
set_option linter.unusedSimpArgs false

set_option maxRecDepth 100000 in
set_option maxHeartbeats 3200000 in
theorem id_any (s : ByteArray) (w : World) (ht : Tab w) : Calls Tryd.prog 23 #[.string s] w fun e w' => e = .returned (.string (sumF s)) ∧ Below w.heap.size w w' := by
  have H := Lib.hid (sum_any s w ht)
  clear ht
  go_enter Tryd.func23, Tryd.ntmps23
  go_wp2_with fail
  (with_reducible refine H.out.mono ?_)
  rintro e w1 ⟨rfl, hb⟩
  go_wp2_with fail
  go_ret
  exact ⟨rfl, hb⟩
end Go.Proofs.YtalkheljejkpiaaDoor
