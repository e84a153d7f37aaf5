/- The walk of the law WireCut. -/
import Derived.Test.YtafgbmeibnhapaaWireOnly
namespace Go.Proofs.Ytafgbmeibnhapaa
open Go.RowKit
set_option linter.unusedVariables false

/-- A number brought to 0 to n - 1. -/
def pickN (k n : Int) : Int := k % n

theorem pickN_range (k n : Int) (hn : 0 < n) : 0 ≤ pickN k n ∧ pickN k n < n := ⟨Int.emod_nonneg _ (by omega), Int.emod_lt_of_pos _ hn⟩

theorem tmod_bounds (k n : Int) (hn : 0 < n) : -n < k.tmod n ∧ k.tmod n < n := by
  refine ⟨?_, Int.tmod_lt_of_pos _ hn⟩
  have := Int.tmod_lt_of_pos (-k) hn
  rw [Int.neg_tmod] at this; omega

theorem tmod_pick (k n : Int) (hn : 0 < n) : (k.tmod n < 0 → k.tmod n + n = pickN k n) ∧ (0 ≤ k.tmod n → k.tmod n = pickN k n) := by
  unfold pickN
  have hb := tmod_bounds k n hn
  have e : k % n = k.tmod n % n := by rw [Int.tmod_def, Int.sub_mul_emod_self_left]
  refine ⟨fun h => ?_, fun h => ?_⟩
  · rw [e, ← Int.add_emod_right, Int.emod_eq_of_lt (by omega) (by omega)]
  · rw [e, Int.emod_eq_of_lt (by omega) (by omega)]

set_option maxRecDepth 100000 in
set_option maxHeartbeats 400000 in
theorem pick_any (k n : Int) (w : World) (hn : 0 < n) (hn2 : n ≤ 4611686018427387904) :
    Calls Try.prog 10 #[.int .i64 k, .int .i64 n] w fun e w' => e = .returned (.int .i64 (pickN k n)) ∧ w = w' := by
  have h0 : (n == 0) = false := by simp; omega
  have hb := tmod_bounds k n hn
  have HP := Lib.hid (tmod_pick k n hn)
  go_enter Try.func10, Try.ntmps10
  go_wp2
  · have h : k.tmod n < 0 := by assumption
    go_ret
    exact ⟨by rw [← HP.out.1 h, ← IntWalk.wrap64_in (k.tmod n + n) (by omega)]; rfl, rfl⟩
  · have h : 0 ≤ k.tmod n := by assumption
    go_ret
    exact ⟨by rw [← HP.out.2 h]; rfl, rfl⟩

set_option maxRecDepth 100000 in
set_option maxHeartbeats 400000 in
theorem wireCut_walk (n : Int) (hn0 : -9223372036854775808 ≤ n ∧ n ≤ 9223372036854775807) (at' : Int) (ha0 : -9223372036854775808 ≤ at' ∧ at' ≤ 9223372036854775807) (w : World) :
    Calls Try.prog 4 #[.int .i64 n, .int .i64 at'] w fun e w' => e = .returned (.bool true) ∧ Below w.heap.size w w' := by
  by_cases hn : 0 ≤ n ∧ n < 4611686018427387904
  · obtain ⟨h0, h1⟩ := hn
    have hpos := enc_pos n.toNat
    have hlen := enc_len9 n.toNat (by omega)
    have hz := putB_size ⟨#[]⟩ n.toNat
    have hsz : (putB ⟨#[]⟩ n.toNat).size = (enc n.toNat).length := by rw [hz]; exact Nat.zero_add _
    clear hz
    have hpk := pickN_range at' (enc n.toNat).length (by omega)
    have hgc : get ((putB ⟨#[]⟩ n.toNat).extract 0 (pickN at' (enc n.toNat).length).toNat).data.toList = none := by
      rw [toList_take, putB_toList]
      exact get_cut _ _ (by omega)
    generalize hs : putB ⟨#[]⟩ n.toNat = s at *
    generalize (enc n.toNat).length = len at *
    subst hsz
    have hne : s.toList.isEmpty = false := isEmpty_false _ (by omega)
    have HG := Lib.hid hgc
    have HS := Lib.hid hs
    clear hgc hs
    go_enter Try.func4, Try.ntmps4
    go_wp2_with fail
    refine (put_int _ _ _ (by decide) h0 h1).mono ?_
    rintro e w1 ⟨rfl, hb⟩
    rw [HS.out]
    go_wp2_with fail
    refine (puts_any _).mono ?_
    rintro e w2 ⟨rfl, hb2⟩
    go_wp2_with fail
    refine (pick_any at' s.size _ (by omega) (by omega)).mono ?_
    rintro e w3 ⟨rfl, rfl⟩
    go_wp2_with fail
    refine (get_any _ _ (by simp only [ByteArray.size_extract, maxLen]; omega)).mono ?_
    rintro e w3 ⟨rfl, rfl⟩
    rw [HG.out, getV]
    go_wp2_with fail
    refine (puts_any _).mono ?_
    rintro e w3 ⟨rfl, hb3⟩
    go_wp2_with fail
    go_ret
    have h2 := hb.trans (hb2.mono hb.size)
    exact ⟨rfl, h2.trans (hb3.mono h2.size)⟩
  · go_enter Try.func4, Try.ntmps4
    go_wp2_with fail
    refine (put_bad _ _ _ (by omega)).mono ?_
    rintro e w1 ⟨rfl, rfl⟩
    go_wp2_with fail
    refine (puts_any _).mono ?_
    rintro e w2 ⟨rfl, hb2⟩
    go_wp2_with fail
    go_ret
    exact ⟨rfl, hb2⟩
end Go.Proofs.Ytafgbmeibnhapaa
