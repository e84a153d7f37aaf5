/- The walks of strings.Compare. -/
import Derived.Test.YtnggcldpojebkaaDoorDiskLaw
import Derived.Test.YtnggcldpojebkaaDoorSlice
import Derived.Test.YtnggcldpojebkaaDoorContains
import Derived.Laws.Externs
namespace Go.Proofs.YtnggcldpojebkaaDoor
open Go.RowKit
set_option linter.unusedVariables false
set_option linter.unusedSimpArgs false

def cmpB (a b : ByteArray) : Int := Lib.compareBytes a.data.toList b.data.toList
theorem cmpB_lt {a b : ByteArray} : cmpB a b < 0 ↔ lt a b := by
  unfold cmpB
  rw [cmp_lt]
  by_cases h : lt a b
  · simp [h]
  · by_cases e : a = b <;> simp [h, e, lt_irr]
theorem cmpB_eq {a b : ByteArray} : cmpB a b = 0 ↔ a = b := by
  unfold cmpB
  rw [cmp_lt]
  by_cases h : lt a b
  · simp [h, lt_ne h]
  · by_cases e : a = b <;> simp [h, e, lt_irr]
set_option maxRecDepth 100000 in
set_option maxHeartbeats 3200000 in
theorem compareS_any (a b : ByteArray) (w : World) : Calls Tryd.prog 25 #[.string a, .string b] w fun e w' => e = .returned (.int .i64 (cmpB a b)) ∧ w' = w := by
  go_enter Tryd.func25, Tryd.ntmps25
  go_wp2
  rw [run_callFunc_extern Tryd.func31 (by kernel_rfl) (by kernel_rfl) (by kernel_rfl) (e := Extern.BytealgCompare.compare) (by kernel_rfl), Lib.run_compareString]
  simp only [Result.andThen]
  rw [Oper.upon_value]
  go_wp2
  go_ret
  exact ⟨rfl, rfl⟩
set_option maxRecDepth 100000 in
set_option maxHeartbeats 3200000 in
theorem compare_any (a b : ByteArray) (w : World) : Calls Tryd.prog 20 #[.string a, .string b] w fun e w' => e = .returned (.int .i64 (cmpB a b)) ∧ w' = w := by
  go_enter Tryd.func20, Tryd.ntmps20
  go_wp2_with fail
  (with_reducible refine (compareS_any a b w).mono ?_)
  rintro e w' ⟨rfl, rfl⟩
  go_wp2_with fail
  go_ret
  exact ⟨rfl, rfl⟩
end Go.Proofs.YtnggcldpojebkaaDoor
