/- The walks of slices.Index and Contains at strings. -/
import Derived.Test.YtmjnohblifihmaaObject1
namespace Go.Proofs.Ytmjnohblifihmaa
open Go.RowKit
set_option linter.unusedVariables false
set_option linter.unusedSimpArgs false

def hasB (ss : List ByteArray) (x : ByteArray) : Bool := ss.any fun y => decide (y = x)
theorem hasB_of {ss : List ByteArray} {x : ByteArray} {k : Nat} (hk : k < ss.length) (h : x = ss.getD k ⟨#[]⟩) : hasB ss x = true := by
  rw [hasB, List.any_eq_true]
  refine ⟨x, ?_, by simp⟩
  rw [h, getD_of _ _ _ hk]; exact List.getElem_mem hk
theorem hasB_none {ss : List ByteArray} {x : ByteArray} (h : ∀ j, j < ss.length → x ≠ ss.getD j ⟨#[]⟩) : hasB ss x = false := by
  cases hb : hasB ss x with
  | false => rfl
  | true =>
    exfalso
    rw [hasB, List.any_eq_true] at hb
    obtain ⟨y, hy, he⟩ := hb
    obtain ⟨k, hk, rfl⟩ := List.getElem_of_mem hy
    simp only [decide_eq_true_eq] at he
    exact h k hk (by rw [getD_of _ _ _ hk, he])
set_option maxRecDepth 100000 in
set_option maxHeartbeats 3200000 in
theorem index_any (ss : List ByteArray) (x : ByteArray) (v : Value) (w : World) (hr : rdS w v ss) :
    Calls Try.prog 33 #[v, .string x] w fun e w' => (∃ r : Int, e = .returned (.int .i64 r) ∧ decide (0 ≤ r) = hasB ss x) ∧ w = w' := by
  have hlen := rdS_len hr
  by_cases h0 : ss.length = 0
  · obtain ⟨ao, cap, rfl⟩ := rdS_form hr
    rw [h0]
    have HN := Lib.hid (show hasB ss x = false from hasB_none (fun j hj => by omega))
    clear hr hlen h0
    go_enter Try.func33, Try.ntmps33
    go_wp2_with fail
    refine wp_loop_rounds 1 ?_
    rw [rounds_succ]
    go_wp2_with fail
    go_ret
    exact ⟨⟨-1, rfl, by rw [HN.out]; rfl⟩, rfl⟩
  · obtain ⟨b, off, cap, rfl, hb, hc⟩ := rdS_all hr (by omega)
    obtain ⟨n, hn⟩ : ∃ n, n = ss.length := ⟨_, rfl⟩
    rw [← hn] at hlen hc ⊢
    have HC := Lib.hid hc
    have HN := Lib.hid hn
    clear hr hc hn h0
    go_enter Try.func33, Try.ntmps33
    go_wp2_with fail
    go_loopw [8] (fun i wr => ∃ k : Nat, k ≤ n ∧ i = .int .i64 (k : Int) ∧ (∀ j, j < k → x ≠ ss.getD j ⟨#[]⟩) ∧ wr = w) (fun i _ => n - (intOf i).toNat)
    case atStart => exact ⟨0, by omega, rfl, fun j hj => by omega, rfl⟩
    case round =>
      obtain ⟨k, hk, rfl, hall, rfl⟩ := hrel
      have HALL := Lib.hid hall
      clear hall
      by_cases hlt : k < n
      · obtain ⟨y, hy⟩ : ∃ y, y = ss.getD k ⟨#[]⟩ := ⟨_, rfl⟩
        have hcx := HC.out k hlt
        rw [← hy] at hcx
        have HX := Lib.hid (show y = ss.getD k ⟨#[]⟩ ∧ k < n from ⟨hy, hlt⟩)
        have hki : (k : Int) < (n : Int) := by omega
        have hkb : decide ((k : Int) < (n : Int)) = true := decide_eq_true hki
        have hkn : decide (k < n) = true := decide_eq_true hlt
        have hk0 : (0 : Int) ≤ (k : Int) := by omega
        clear hy hlt
        by_cases hxy : x = y
        · subst hxy
          have hoo := beq_yes x
          have HH := Lib.hid (show hasB ss x = true from hasB_of (by have := HX.out.2; have := HN.out; omega) HX.out.1)
          go_wp2_with fail
          go_ret
          exact ⟨⟨(k : Int), rfl, by rw [HH.out]; exact decide_eq_true (by omega)⟩, rfl⟩
        · have hoo := beq_no hxy
          have HXY := Lib.hid hxy
          clear hxy
          go_wp2_with fail
          refine ⟨⟨k + 1, by have := HX.out.2; omega, by first | rfl | go_num, fun j hj => ?_, by first | trivial | rfl⟩, by have := HX.out.2; simp [intOf]; omega⟩
          by_cases hjk : j = k
          · rw [hjk, ← HX.out.1]; exact HXY.out
          · exact HALL.out j (by omega)
      · have hkn : k = n := by omega
        subst hkn
        have HH := Lib.hid (show hasB ss x = false from hasB_none (fun j hj => HALL.out j (by have := HN.out; omega)))
        have hkb : decide ((k : Int) < (k : Int)) = false := by simp
        clear hlt hk
        go_wp2_with fail
        go_ret
        exact ⟨⟨-1, rfl, by rw [HH.out]; rfl⟩, rfl⟩
set_option maxRecDepth 100000 in
set_option maxHeartbeats 3200000 in
theorem containsS_any (ss : List ByteArray) (x : ByteArray) (v : Value) (w : World) (hr : rdS w v ss) :
    Calls Try.prog 25 #[v, .string x] w fun e w' => e = .returned (.bool (hasB ss x)) ∧ w = w' := by
  have HI := Lib.hid (index_any ss x v w hr)
  obtain ⟨b, hb⟩ : ∃ b, b = hasB ss x := ⟨_, rfl⟩
  rw [← hb] at HI ⊢
  clear hb hr
  go_enter Try.func25, Try.ntmps25
  go_wp2_with fail
  (with_reducible refine HI.out.mono ?_)
  rintro e w1 ⟨⟨r, rfl, hr⟩, rfl⟩
  subst hr
  go_wp2_with fail
  go_ret
  exact ⟨rfl, rfl⟩
end Go.Proofs.Ytmjnohblifihmaa
