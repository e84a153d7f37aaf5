/- The walk of the keep package's pick. -/
import Derived.Test.YtmacceamebdelaaDoorChecked
import Derived.WalkKit
import Derived.Lib.Hide
namespace Go.Proofs.YtmacceamebdelaaDoor
open Go.RowKit
set_option linter.unusedVariables false
set_option linter.unusedSimpArgs false
theorem pickD_law (k : Int) (n : Nat) (hn : 1 ≤ n) : 0 ≤ k % (n : Int) ∧ k % (n : Int) < (n : Int) := ⟨Int.emod_nonneg _ (by omega), Int.emod_lt_of_pos _ (by omega)⟩
set_option maxRecDepth 100000 in
set_option maxHeartbeats 1600000 in
theorem pickD_any (k : Int) (n : Nat) (w : World) (hk1 : -9223372036854775808 ≤ k) (hk2 : k ≤ 9223372036854775807) (hn : 1 ≤ n) (hn2 : n ≤ 4611686018427387904) :
    Calls Tryd.prog 4 #[.int .i64 k, .int .i64 (n : Int)] w fun e w' => e = .returned (.int .i64 (k % (n : Int))) ∧ w = w' := by
  have hp := pickD_law k n hn
  obtain ⟨r, hr⟩ : ∃ r, r = k % (n : Int) := ⟨_, rfl⟩
  rw [← hr] at hp ⊢
  by_cases h0 : 0 ≤ k
  · have ht : k.tmod (n : Int) = r := by rw [Int.tmod_eq_emod_of_nonneg h0, hr]
    have he : k % (n : Int) = r := hr.symm
    have hn1 : (1 : Int) ≤ (n : Int) := by omega
    obtain ⟨p1, p2⟩ := hp
    clear hr
    go_enter Tryd.func4, Tryd.ntmps4
    go_wp2_with fail
    go_ret
    exact ⟨rfl, rfl⟩
  · obtain ⟨x, hx⟩ : ∃ x, x = k.tmod (n : Int) := ⟨_, rfl⟩
    have hneg : k.tmod (n : Int) = - ((-k) % (n : Int)) := by
      have : k = -(-k) := by omega
      rw [this, Int.neg_tmod, Int.tmod_eq_emod_of_nonneg (by omega)]; simp
    have hb := pickD_law (-k) n hn
    have hn1 : (1 : Int) ≤ (n : Int) := by omega
    have hx1 : -(n : Int) < x := by rw [hx, hneg]; omega
    have hx2 : x ≤ 0 := by rw [hx, hneg]; omega
    have hmod : x % (n : Int) = r := by
      rw [hr, hx]
      have := Int.tmod_add_mul_tdiv k (n : Int)
      rw [← Int.add_mul_emod_self_left (k.tmod (n : Int)) (n : Int) (k.tdiv (n : Int)), this]
    have ht : k.tmod (n : Int) = x := hx.symm
    by_cases hz : x < 0
    · have hxr : x + (n : Int) = r := by
        rw [← hmod, ← Int.add_emod_right, Int.emod_eq_of_lt (by omega) (by omega)]
      have HXR := Lib.hid hxr
      clear hr hx hneg hb hmod hp hxr h0 hk1 hk2
      go_enter Tryd.func4, Tryd.ntmps4
      go_wp2_with fail
      go_ret
      exact ⟨(by rw [← HXR.out]; rfl), rfl⟩
    · have hx0 : x = 0 := by omega
      have hr0 : r = 0 := by rw [← hmod, hx0]; simp
      subst hx0
      subst hr0
      clear hr hx hneg hb hmod hp h0 hk1 hk2
      go_enter Tryd.func4, Tryd.ntmps4
      go_wp2_with fail
      go_ret
      exact ⟨rfl, rfl⟩
theorem pick5 (k : Int) (w : World) (hk : -9223372036854775808 ≤ k ∧ k ≤ 9223372036854775807) : Calls Tryd.prog 4 #[.int .i64 k, .int .i64 5] w fun e w' => e = .returned (.int .i64 (k % 5)) ∧ w = w' := pickD_any k 5 w hk.1 hk.2 (by omega) (by omega)
theorem pick6 (k : Int) (w : World) (hk : -9223372036854775808 ≤ k ∧ k ≤ 9223372036854775807) : Calls Tryd.prog 4 #[.int .i64 k, .int .i64 6] w fun e w' => e = .returned (.int .i64 (k % 6)) ∧ w = w' := pickD_any k 6 w hk.1 hk.2 (by omega) (by omega)
theorem pick7 (k : Int) (w : World) (hk : -9223372036854775808 ≤ k ∧ k ≤ 9223372036854775807) : Calls Tryd.prog 4 #[.int .i64 k, .int .i64 7] w fun e w' => e = .returned (.int .i64 (k % 7)) ∧ w = w' := pickD_any k 7 w hk.1 hk.2 (by omega) (by omega)
theorem pick100 (k : Int) (w : World) (hk : -9223372036854775808 ≤ k ∧ k ≤ 9223372036854775807) : Calls Tryd.prog 4 #[.int .i64 k, .int .i64 100] w fun e w' => e = .returned (.int .i64 (k % 100)) ∧ w = w' := pickD_any k 100 w hk.1 hk.2 (by omega) (by omega)
theorem pick1000 (k : Int) (w : World) (hk : -9223372036854775808 ≤ k ∧ k ≤ 9223372036854775807) : Calls Tryd.prog 4 #[.int .i64 k, .int .i64 1000] w fun e w' => e = .returned (.int .i64 (k % 1000)) ∧ w = w' := pickD_any k 1000 w hk.1 hk.2 (by omega) (by omega)
end Go.Proofs.YtmacceamebdelaaDoor
