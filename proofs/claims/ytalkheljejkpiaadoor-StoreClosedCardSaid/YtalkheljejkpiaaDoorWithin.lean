/- The walk of the keep's within. -/
import Derived.Test.YtalkheljejkpiaaDoorStore3
import Derived.Test.YtalkheljejkpiaaDoorPackLaw2
namespace Go.Proofs.YtalkheljejkpiaaDoor
open Go.RowKit
set_option linter.unusedVariables false
set_option linter.unusedSimpArgs false

set_option maxRecDepth 100000 in
set_option maxHeartbeats 3200000 in
theorem within_any (ss : List ByteArray) (x : ByteArray) (v : Value) (w : World) (hr : rdS w v ss) :
    Calls Tryd.prog 29 #[v, .string x] w fun e w' => e = .returned (.bool (hasB ss x)) ∧ w' = w := by
  obtain ⟨R, hR⟩ : ∃ R, R = hasB ss x := ⟨_, rfl⟩
  rw [← hR]
  have HRE := Lib.hid hR
  obtain ⟨a1, c1, rfl⟩ := rd_form hr
  have HRD := Lib.hid hr
  have HLN := Lib.hid (rdS_len hr)
  clear hR hr
  go_enter Tryd.func29, Tryd.ntmps29
  go_wp2_with fail
  go_loopw [5] (fun i wr => ∃ k : Nat, k ≤ ss.length ∧ i = .int .i64 (k : Int) ∧ Hid (hasB (ss.take k) x = false) ∧ wr = w) (fun i _ => ss.length - (intOf i).toNat)
  case atStart => exact ⟨0, Nat.zero_le _, rfl, Lib.hid (by simp [hasB]), rfl⟩
  case round =>
    obtain ⟨k, hk, rfl, HN, hw⟩ := hrel
    subst hw
    by_cases hkl : k < ss.length
    · have HKL := Lib.hid hkl
      have kb : decide ((k : Int) < (ss.length : Int)) = true := decide_eq_true (by omega)
      have ki : (k : Int) < (ss.length : Int) := by omega
      have kz : (0 : Int) ≤ (k : Int) := by omega
      have kl := HLN.out
      obtain ⟨bl, ol, hbl, _, hcl⟩ := rdS_at' HRD.out (by omega)
      subst hbl
      have e0 := hcl k hkl
      obtain ⟨y, hy⟩ : ∃ y, y = ss.getD k noB := ⟨_, rfl⟩
      rw [← hy] at e0
      have HY := Lib.hid (show hasB (ss.take (k + 1)) x = (hasB (ss.take k) x || decide (y = x)) by rw [← take_snocD hkl, hasB_snoc, ← hy])
      have HIN := Lib.hid (show y ∈ ss by rw [hy, List.getD, List.getElem?_eq_getElem hkl]; exact List.getElem_mem hkl)
      clear hcl hy hkl
      by_cases hyx : y = x
      · have m1 : (y.toList == x.toList) = true := by rw [hyx]; exact beq_yes _
        have hr := HRE.out.trans (hasB_iff.2 (hyx ▸ HIN.out))
        subst hr
        clear hyx
        go_wp2_with fail
        go_ret
        exact ⟨rfl, rfl⟩
      · have m1 : (y.toList == x.toList) = false := beq_no hyx
        have HN2 := Lib.hid (show hasB (ss.take (k + 1)) x = false by rw [HY.out, HN.out, decide_eq_false hyx]; rfl)
        clear hyx
        go_wp2_with fail
        exact ⟨⟨k + 1, HKL.out, rfl, HN2, trivial⟩, meas_step (n := ss.length) _ rfl HKL.out⟩
    · have kb : decide ((k : Int) < (ss.length : Int)) = false := decide_eq_false (by omega)
      have kb2 : decide (k < ss.length) = false := decide_eq_false hkl
      have hr := HRE.out
      rw [← List.take_of_length_le (show ss.length ≤ k by omega), HN.out] at hr
      subst hr
      clear hkl
      go_wp2_with fail
      go_ret
      exact ⟨rfl, rfl⟩
end Go.Proofs.YtalkheljejkpiaaDoor
