/- The walk of DeltaBack. -/
import Derived.Test.YtnggcldpojebkaaDelta3
import Derived.Test.YtnggcldpojebkaaDelta4
namespace Go.Proofs.Ytnggcldpojebkaa
open Go.RowKit
set_option linter.unusedVariables false
set_option linter.unusedSimpArgs false

theorem sbeq_dec (a b : ByteArray) : (a.toList == b.toList) = decide (a = b) := by
  rw [Bool.eq_iff_iff]
  simp only [beq_iff_eq, decide_eq_true_eq]
  constructor
  · intro h
    rw [ByteArray.toList_eq, ByteArray.toList_eq] at h
    exact bs_ext h
  · intro h; rw [h]
theorem sbeq_no {a b : ByteArray} (h : a ≠ b) : (a.toList == b.toList) = false := by rw [sbeq_dec]; simpa using h
theorem sbeq_yes (a : ByteArray) : (a.toList == a.toList) = true := by rw [sbeq_dec]; simp
set_option maxRecDepth 100000 in
set_option maxHeartbeats 3200000 in
theorem deltas_any (w : World) : Calls Try.prog 10 #[] w fun e w' => e = .returned (.bool true) ∧ Below w.heap.size w w' := by
  have H := Lib.hid (apply_any ⟨#[97, 98, 99]⟩ ⟨#[3, 2, 5, 1]⟩ w (by decide) (by decide))
  rw [apply_abc] at H
  obtain ⟨r, hr⟩ : ∃ r : ByteArray, r = ⟨#[98, 99]⟩ := ⟨_, rfl⟩
  rw [← hr] at H
  have hoo : (r.toList == [98, 99]) = true := by rw [hr, ByteArray.toList_eq]; rfl
  have hoo2 : decide (r.toList = [98, 99]) = true := by rw [hr, ByteArray.toList_eq]; rfl
  clear hr
  go_enter Try.func10, Try.ntmps10
  go_wp2_with fail
  (with_reducible refine H.out.mono ?_)
  rintro e w1 ⟨rfl, hb⟩
  go_wp2_with fail
  go_ret
  exact ⟨rfl, hb⟩

set_option maxRecDepth 100000 in
set_option maxHeartbeats 3200000 in
theorem deltaBack_walk (base : ByteArray) (hb : base.size ≤ 140737488351232) (T : ByteArray) (hT : T.size ≤ 140737488351232) (w : World) :
    Calls Try.prog 3 #[.string base, .string T] w fun e w' => e = .returned (.bool true) ∧ Below w.heap.size w w' := by
  have HMK := Lib.hid (make_any base T w (by omega) (by omega))
  by_cases hok : base.size ≤ 8192 ∧ T.size ≤ 8192
  · have e1 : makeF base T = (makeD base T, 0) := by unfold makeF; rw [if_pos hok]
    rw [e1] at HMK
    obtain ⟨hb8, hT8⟩ := hok
    have hle := makeD_le hb8 hT8
    have HB1 := Lib.hid (fun w' => apply_any base (makeD base T) w' (by omega) (by omega))
    have HB2 := Lib.hid (fun w' => apply_any (base ++ ⟨#[120]⟩) (makeD base T) w' (by rw [ByteArray.size_append]; show base.size + 1 ≤ _; omega) (by omega))
    rw [apply_back hb8 hT8] at HB1
    rw [apply_other hb8 hT8 (by rw [ByteArray.size_append]; show base.size + 1 ≠ base.size; omega)] at HB2
    obtain ⟨dd, hdd⟩ : ∃ d, d = makeD base T := ⟨_, rfl⟩
    rw [← hdd] at HMK HB1 HB2 hle
    have hli : (dd.size : Int) ≤ (T.size : Int) + 8 := by omega
    have hlb : decide ((dd.size : Int) ≤ (T.size : Int) + 8) = true := decide_eq_true hli
    have hln : decide (dd.size ≤ T.size + 8) = true := decide_eq_true hle
    have hoo := sbeq_yes T
    have hsz : base.size + 1 ≤ 9223372036854775807 := by omega
    clear e1 hdd
    go_enter Try.func3, Try.ntmps3
    go_wp2_with fail
    (with_reducible refine HMK.out.mono ?_)
    rintro e w1 ⟨rfl, hb1⟩
    have H1 := Lib.hid hb1
    clear hb1
    go_wp2_with fail
    (with_reducible refine (HB1.out _).mono ?_)
    rintro e w2 ⟨rfl, hb1⟩
    have H2 := Lib.hid (H1.out.trans (hb1.mono H1.out.size))
    clear hb1
    go_wp2_with fail
    (with_reducible refine (HB2.out _).mono ?_)
    rintro e w3 ⟨rfl, hb1⟩
    have H3 := Lib.hid (H2.out.trans (hb1.mono H2.out.size))
    clear hb1
    go_wp2_with fail
    (with_reducible refine (deltas_any _).mono ?_)
    rintro e w4 ⟨rfl, hb1⟩
    have H4 := Lib.hid (H3.out.trans (hb1.mono H3.out.size))
    clear hb1
    go_wp2_with fail
    go_ret
    exact ⟨rfl, H4.out⟩
  · have e1 : makeF base T = (⟨#[]⟩, 1) := by unfold makeF; rw [if_neg hok]
    rw [e1] at HMK
    obtain ⟨z, hz⟩ : ∃ z : ByteArray, z = ⟨#[]⟩ := ⟨_, rfl⟩
    rw [← hz] at HMK
    have hze : z.toList.isEmpty = true := by rw [hz, ByteArray.toList_eq]; rfl
    clear hz e1
    by_cases hb8 : base.size ≤ 8192
    · have hbi : ¬ (8192 : Int) < (base.size : Int) := by omega
      have hbb : decide ((8192 : Int) < (base.size : Int)) = false := decide_eq_false hbi
      have hbn : decide (8192 < base.size) = false := decide_eq_false (by omega)
      have hti : (8192 : Int) < (T.size : Int) := by omega
      have htb : decide ((8192 : Int) < (T.size : Int)) = true := decide_eq_true hti
      have htn : decide (8192 < T.size) = true := decide_eq_true (by omega)
      clear hok hb8
      go_enter Try.func3, Try.ntmps3
      go_wp2_with fail
      (with_reducible refine HMK.out.mono ?_)
      rintro e w1 ⟨rfl, hb1⟩
      have H1 := Lib.hid hb1
      clear hb1
      go_wp2_with fail
      (with_reducible refine (deltas_any _).mono ?_)
      rintro e w4 ⟨rfl, hb1⟩
      have H4 := Lib.hid (H1.out.trans (hb1.mono H1.out.size))
      clear hb1
      go_wp2_with fail
      go_ret
      exact ⟨rfl, H4.out⟩
    · have hbi : (8192 : Int) < (base.size : Int) := by omega
      have hbb : decide ((8192 : Int) < (base.size : Int)) = true := decide_eq_true hbi
      have hbn : decide (8192 < base.size) = true := decide_eq_true (by omega)
      clear hok hb8
      go_enter Try.func3, Try.ntmps3
      go_wp2_with fail
      (with_reducible refine HMK.out.mono ?_)
      rintro e w1 ⟨rfl, hb1⟩
      have H1 := Lib.hid hb1
      clear hb1
      go_wp2_with fail
      (with_reducible refine (deltas_any _).mono ?_)
      rintro e w4 ⟨rfl, hb1⟩
      have H4 := Lib.hid (H1.out.trans (hb1.mono H1.out.size))
      clear hb1
      go_wp2_with fail
      go_ret
      exact ⟨rfl, H4.out⟩
end Go.Proofs.Ytnggcldpojebkaa
