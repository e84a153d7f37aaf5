/- strings.CutPrefix with the letter that names objects' files. -/
import Derived.Test.YtalkheljejkpiaaDoorBas
namespace Go.Proofs.YtalkheljejkpiaaDoor
open Go.RowKit
set_option linter.unusedVariables false
set_option linter.unusedSimpArgs false

def hasO (s : ByteArray) : Bool := decide (1 ≤ s.size) && decide (s.extract 0 1 = ⟨#[111]⟩)
def cutF (s : ByteArray) : ByteArray × Bool := if hasO s = true then (s.extract 1 s.size, true) else (s, false)
theorem hasO_app (b : ByteArray) : hasO (⟨#[111]⟩ ++ b) = true := by
  have h1 : (⟨#[111]⟩ : ByteArray).size = 1 := rfl
  unfold hasO
  rw [Bool.and_eq_true, decide_eq_true_iff, decide_eq_true_iff]
  refine ⟨by rw [ByteArray.size_append, h1]; omega, ?_⟩
  rw [ByteArray.extract_append_eq_left h1]
theorem cutF_app (b : ByteArray) : cutF (⟨#[111]⟩ ++ b) = (b, true) := by
  have h1 : (⟨#[111]⟩ : ByteArray).size = 1 := rfl
  unfold cutF
  rw [if_pos (hasO_app b), ByteArray.extract_append_eq_right h1 (by rw [ByteArray.size_append, h1])]
theorem cutF_back {s b : ByteArray} (h : cutF s = (b, true)) : s = ⟨#[111]⟩ ++ b := by
  unfold cutF at h
  split at h
  · next k =>
    injection h with h _
    unfold hasO at k
    rw [Bool.and_eq_true, decide_eq_true_iff, decide_eq_true_iff] at k
    rw [← h, ← k.2]
    have := ByteArray.extract_append_extract (a := s) (i := 0) (j := 1) (k := s.size)
    rw [this, Nat.min_eq_left (Nat.zero_le _), Nat.max_eq_right k.1, ByteArray.extract_zero_size]
  · injection h with _ h; cases h
theorem cutF_size (s : ByteArray) : (cutF s).1.size ≤ s.size := by
  unfold cutF
  split
  · rw [ByteArray.size_extract]; omega
  · exact Nat.le_refl _
set_option maxRecDepth 100000 in
theorem hasO_any (s : ByteArray) (w : World) (hs : s.size ≤ 9223372036854775807) : Calls Tryd.prog 100 #[.string s, .string ⟨#[111]⟩] w fun e w' => e = .returned (.bool (hasO s)) ∧ w' = w := by
  obtain ⟨R, hR⟩ : ∃ R, R = hasO s := ⟨_, rfl⟩
  rw [← hR]
  unfold hasO at hR
  obtain ⟨c, hc⟩ : ∃ c : ByteArray, (⟨#[111]⟩ : ByteArray) = c := ⟨_, rfl⟩
  rw [hc] at hR ⊢
  have hcz : c.size = 1 := by rw [← hc]; rfl
  have HR := Lib.hid hR
  clear hR hc
  by_cases h1 : 1 ≤ s.size
  · have k1 : decide ((1 : Int) ≤ (s.size : Int)) = true := decide_eq_true (by omega)
    have k2 : (1 : Int) ≤ (s.size : Int) := by omega
    have k3 : decide (1 ≤ s.size) = true := decide_eq_true h1
    obtain ⟨x, hx⟩ : ∃ x, s.extract 0 1 = x := ⟨_, rfl⟩
    have HX := Lib.hid hx
    by_cases he : x = c
    · have m1 : (x.toList == c.toList) = true := by rw [he]; exact beq_yes _
      have hr := HR.out
      rw [HX.out, k3, decide_eq_true he] at hr
      subst hr
      clear he
      go_enter Tryd.func100, Tryd.ntmps100
      go_wp2_with fail
      go_ret
      exact ⟨rfl, rfl⟩
    · have m1 : (x.toList == c.toList) = false := beq_no he
      have hr := HR.out
      rw [HX.out, k3, decide_eq_false he] at hr
      subst hr
      clear he
      go_enter Tryd.func100, Tryd.ntmps100
      go_wp2_with fail
      go_ret
      exact ⟨rfl, rfl⟩
  · have k1 : decide ((1 : Int) ≤ (s.size : Int)) = false := decide_eq_false (by omega)
    have k3 : decide (1 ≤ s.size) = false := decide_eq_false h1
    have hr := HR.out
    rw [k3] at hr
    subst hr
    clear h1
    go_enter Tryd.func100, Tryd.ntmps100
    go_wp2_with fail
    go_ret
    exact ⟨rfl, rfl⟩
set_option maxRecDepth 100000 in
theorem cutL_any (s : ByteArray) (w : World) (hs : s.size ≤ 9223372036854775807) : Calls Tryd.prog 79 #[.string s, .string ⟨#[111]⟩] w fun e w' => e = .returned (.tuple #[.string (cutF s).1, .bool (cutF s).2]) ∧ w' = w := by
  obtain ⟨r, hr⟩ : ∃ r, r = cutF s := ⟨_, rfl⟩
  rw [← hr]
  have HR := Lib.hid hr
  have hh := hasO_any s w hs
  obtain ⟨b, hb⟩ : ∃ b, b = hasO s := ⟨_, rfl⟩
  rw [← hb] at hh
  obtain ⟨c, hc⟩ : ∃ c : ByteArray, (⟨#[111]⟩ : ByteArray) = c := ⟨_, rfl⟩
  rw [hc] at hh ⊢
  have hcz : c.size = 1 := by rw [← hc]; rfl
  have HC := Lib.hid hh
  have HO := Lib.hid hb
  clear hr hb hc hh
  go_enter Tryd.func79, Tryd.ntmps79
  go_wp2_with fail
  (with_reducible refine HC.out.mono ?_)
  rintro e w1 ⟨rfl, rfl⟩
  clear HC
  cases b with
  | true =>
    have h1 : 1 ≤ s.size := by
      have := HO.out
      unfold hasO at this
      have := this.symm
      rw [Bool.and_eq_true, decide_eq_true_iff] at this
      exact this.1
    have k2 : (1 : Int) ≤ (s.size : Int) := by omega
    obtain ⟨x, hx⟩ : ∃ x, s.extract 1 s.size = x := ⟨_, rfl⟩
    have hr := HR.out
    unfold cutF at hr
    rw [if_pos HO.out.symm, hx] at hr
    subst hr
    go_wp2_with fail
    go_ret2
    exact ⟨rfl, rfl⟩
  | false =>
    have hr := HR.out
    unfold cutF at hr
    rw [if_neg (by rw [← HO.out]; decide)] at hr
    subst hr
    go_wp2_with fail
    go_ret2
    exact ⟨rfl, rfl⟩
set_option maxRecDepth 100000 in
theorem cut_any (s : ByteArray) (w : World) (hs : s.size ≤ 9223372036854775807) : Calls Tryd.prog 56 #[.string s, .string ⟨#[111]⟩] w fun e w' => e = .returned (.tuple #[.string (cutF s).1, .bool (cutF s).2]) ∧ w' = w := by
  have hh := cutL_any s w hs
  obtain ⟨⟨r, b⟩, hr⟩ : ∃ r, r = cutF s := ⟨_, rfl⟩
  rw [← hr] at hh ⊢
  obtain ⟨c, hc⟩ : ∃ c : ByteArray, (⟨#[111]⟩ : ByteArray) = c := ⟨_, rfl⟩
  rw [hc] at hh ⊢
  have HC := Lib.hid hh
  clear hr hc hh
  go_enter Tryd.func56, Tryd.ntmps56
  go_wp2_with fail
  (with_reducible refine HC.out.mono ?_)
  rintro e w1 ⟨rfl, rfl⟩
  clear HC
  go_wp2_with fail
  go_ret2
  exact ⟨rfl, rfl⟩
end Go.Proofs.YtalkheljejkpiaaDoor
