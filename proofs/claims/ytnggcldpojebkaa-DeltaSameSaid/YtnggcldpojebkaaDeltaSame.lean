/- The walk of DeltaSame. -/
import Derived.Test.YtnggcldpojebkaaDeltaBack
namespace Go.Proofs.Ytnggcldpojebkaa
open Go.RowKit
set_option linter.unusedVariables false
set_option linter.unusedSimpArgs false

set_option maxRecDepth 100000 in
set_option maxHeartbeats 3200000 in
theorem deltaSame_walk (base : ByteArray) (hb : base.size ≤ 140737488351232) (more : ByteArray) (hm : more.size ≤ 140737488351232) (w : World) :
    Calls Try.prog 4 #[.string base, .string more] w fun e w' => e = .returned (.bool true) ∧ Below w.heap.size w w' := by
  by_cases hs : base.size + more.size ≤ 8192
  · have hsi : ¬ (8192 : Int) < (base.size : Int) + (more.size : Int) := by omega
    have hsb : decide ((8192 : Int) < (base.size : Int) + (more.size : Int)) = false := decide_eq_false hsi
    have hsn : decide (8192 < base.size + more.size) = false := decide_eq_false (by omega)
    by_cases h16 : 16 ≤ base.size
    · have h6i : ¬ (base.size : Int) < 16 := by omega
      have h6b : decide ((base.size : Int) < 16) = false := decide_eq_false h6i
      have h6n : decide (base.size < 16) = false := decide_eq_false (by omega)
      have hz : (base ++ more).size = base.size + more.size := ByteArray.size_append
      have HMK := Lib.hid (fun w' => make_any base (base ++ more) w' (by omega) (by omega))
      have e1 : makeF base (base ++ more) = (makeD base (base ++ more), 0) := by unfold makeF; rw [if_pos (by omega)]
      rw [e1] at HMK
      have hle := makeD_pre h16 hs
      obtain ⟨dd, hdd⟩ : ∃ d, d = makeD base (base ++ more) := ⟨_, rfl⟩
      rw [← hdd] at HMK hle
      have hli : (dd.size : Int) ≤ (more.size : Int) + 20 := by omega
      have hlb : decide ((dd.size : Int) ≤ (more.size : Int) + 20) = true := decide_eq_true hli
      have hln : decide (dd.size ≤ more.size + 20) = true := decide_eq_true hle
      have hsz : base.size + more.size ≤ 9223372036854775807 := by omega
      clear e1 hdd hz hs h16
      go_enter Try.func4, Try.ntmps4
      go_wp2_with fail
      (with_reducible refine (HMK.out _).mono ?_)
      rintro e w1 ⟨rfl, hb1⟩
      have H1 := Lib.hid hb1
      clear hb1
      go_wp2_with fail
      (with_reducible refine (deltas_any _).mono ?_)
      rintro e w4 ⟨rfl, hb1⟩
      have H4 := Lib.hid (H1.out.trans (hb1.mono H1.out.size))
      clear hb1
      go_wp2_with fail
      go_ret
      exact ⟨rfl, H4.out⟩
    · have h6i : (base.size : Int) < 16 := by omega
      have h6b : decide ((base.size : Int) < 16) = true := decide_eq_true h6i
      have h6n : decide (base.size < 16) = true := decide_eq_true (by omega)
      clear hs h16
      go_enter Try.func4, Try.ntmps4
      go_wp2_with fail
      (with_reducible refine (deltas_any _).mono ?_)
      rintro e w4 ⟨rfl, hb1⟩
      go_wp2_with fail
      go_ret
      exact ⟨rfl, hb1⟩
  · have hsi : (8192 : Int) < (base.size : Int) + (more.size : Int) := by omega
    have hsb : decide ((8192 : Int) < (base.size : Int) + (more.size : Int)) = true := decide_eq_true hsi
    have hsn : decide (8192 < base.size + more.size) = true := decide_eq_true (by omega)
    clear hs
    go_enter Try.func4, Try.ntmps4
    go_wp2_with fail
    (with_reducible refine (deltas_any _).mono ?_)
    rintro e w4 ⟨rfl, hb1⟩
    go_wp2_with fail
    go_ret
    exact ⟨rfl, hb1⟩
end Go.Proofs.Ytnggcldpojebkaa
