/- The walk of the law WireCut. -/
import Derived.Test.YtmjnohblifihmaaWireOnly
namespace Go.Proofs.Ytmjnohblifihmaa
open Go.RowKit
set_option linter.unusedVariables false

/-- A number brought to 0 to n - 1. -/
def pickN (k n : Int) : Int := k % n

theorem pickN_range (k n : Int) (hn : 0 < n) : 0 ≤ pickN k n ∧ pickN k n < n := ⟨Int.emod_nonneg _ (by omega), Int.emod_lt_of_pos _ hn⟩

theorem tmod_bounds (k n : Int) (hn : 0 < n) : -n < k.tmod n ∧ k.tmod n < n := by
  refine ⟨?_, Int.tmod_lt_of_pos _ hn⟩
  have := Int.tmod_lt_of_pos (-k) hn
  rw [Int.neg_tmod] at this; omega

theorem tmod_pick (k n : Int) (hn : 0 < n) : (k.tmod n < 0 → k.tmod n + n = pickN k n) ∧ (0 ≤ k.tmod n → k.tmod n = pickN k n) := by
  unfold pickN
  have hb := tmod_bounds k n hn
  have e : k % n = k.tmod n % n := by rw [Int.tmod_def, Int.sub_mul_emod_self_left]
  refine ⟨fun h => ?_, fun h => ?_⟩
  · rw [e, ← Int.add_emod_right, Int.emod_eq_of_lt (by omega) (by omega)]
  · rw [e, Int.emod_eq_of_lt (by omega) (by omega)]

set_option maxRecDepth 100000 in
set_option maxHeartbeats 400000 in
theorem pick_any (k n : Int) (w : World) (hn : 0 < n) (hn2 : n ≤ 4611686018427387904) :
    Calls Try.prog 11 #[.int .i64 k, .int .i64 n] w fun e w' => e = .returned (.int .i64 (pickN k n)) ∧ w = w' := by
  have h0 : (n == 0) = false := by simp; omega
  have hb := tmod_bounds k n hn
  have HP := Lib.hid (tmod_pick k n hn)
  go_enter Try.func11, Try.ntmps11
  go_wp2
  · have h : k.tmod n < 0 := by assumption
    go_ret
    exact ⟨by rw [← HP.out.1 h, ← IntWalk.wrap64_in (k.tmod n + n) (by omega)]; rfl, rfl⟩
  · have h : 0 ≤ k.tmod n := by assumption
    go_ret
    exact ⟨by rw [← HP.out.2 h]; rfl, rfl⟩

end Go.Proofs.Ytmjnohblifihmaa
