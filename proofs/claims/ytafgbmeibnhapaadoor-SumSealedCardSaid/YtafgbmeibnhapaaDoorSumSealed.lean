/- The walk of SumSealed. -/
import Derived.Test.YtafgbmeibnhapaaDoorSumSeal
import Derived.Test.YtafgbmeibnhapaaDoorSumAbcWalk
namespace Go.Proofs.YtafgbmeibnhapaaDoor
open Go.RowKit
set_option linter.unusedVariables false
set_option linter.unusedSimpArgs false

theorem keyN_keyN (key : ByteArray) : keyN (keyN key) = keyN key := by
  have h := keyN_size key
  rw [show keyN (keyN key) = if (keyN key).size ≤ 64 then keyN key else sumF (keyN key) from rfl, if_pos h]
theorem sealF_keyN (key b : ByteArray) : sealF (keyN key) b = sealF key b := by unfold sealF; rw [keyN_keyN]
theorem sealF_size (key b : ByteArray) : (sealF key b).size = 32 := sumF_size _
theorem padB_zero (c : UInt8) (key : ByteArray) (i : Nat) : padB c (key ++ ⟨#[0]⟩) i = padB c key i := by
  have hsz : (key ++ ⟨#[0]⟩ : ByteArray).size = key.size + 1 := ByteArray.size_append
  have hx : (key ++ ⟨#[0]⟩ : ByteArray).data.toList = key.data.toList ++ [0] := toList_append _ _
  unfold padB
  rw [hsz, hx]
  have hl := toList_length key
  by_cases h : i < key.size
  · rw [if_pos h, if_pos (by omega), List.getD, List.getD, List.getElem?_append_left (by omega)]
  · rw [if_neg h]
    by_cases h2 : i = key.size
    · rw [if_pos (by omega), List.getD, List.getElem?_append_right (by omega), hl, h2, Nat.sub_self]
      simp
    · rw [if_neg (by omega)]
theorem padL_zero (c : UInt8) (key : ByteArray) : ∀ n, padL c (key ++ ⟨#[0]⟩) n = padL c key n
  | 0 => rfl
  | n + 1 => by rw [padL, padL, padL_zero c key n, padB_zero]
theorem sealF_zero (key b : ByteArray) (h : key.size < 64) : sealF (key ++ ⟨#[0]⟩) b = sealF key b := by
  have hsz : (key ++ ⟨#[0]⟩ : ByteArray).size = key.size + 1 := ByteArray.size_append
  have h1 : keyN key = key := by unfold keyN; rw [if_pos (by omega)]
  have h2 : keyN (key ++ ⟨#[0]⟩) = key ++ ⟨#[0]⟩ := by unfold keyN; rw [if_pos (by omega)]
  unfold sealF padS
  rw [h1, h2, padL_zero, padL_zero]

set_option maxRecDepth 100000 in
set_option maxHeartbeats 1600000 in
theorem sumSealed_long (key : ByteArray) (hk : key.size ≤ 140737488351232) (b : ByteArray) (hb : b.size ≤ 140737488351232) (w : World) (ht : Tab w) (h1 : (64 : Int) < (key.size : Int)) :
    Calls Tryd.prog 5 #[.string key, .string b] w fun e w' => e = .returned (.bool true) ∧ Below w.heap.size w w' := by
  obtain ⟨s, hs⟩ : ∃ s, s = sealF key b := ⟨_, rfl⟩
  have hs32 : s.size = 32 := by rw [hs]; exact sealF_size _ _
  have HS := Lib.hid hs
  have HT := Lib.hid ht
  clear ht hs
  have hkn : keyN key = sumF key := by unfold keyN; rw [if_neg (by omega)]
  have HSN := Lib.hid (show sealF (sumF key) b = s by rw [← hkn, sealF_keyN, HS.out])
  have hz : (sumF key).size ≤ 140737488355328 := by rw [sumF_size]; decide
  have h2 : (64 : Int) ≤ (key.size : Int) := by omega
  clear hkn
  go_enter Tryd.func5, Tryd.ntmps5
  go_wp2_with fail
  refine (seal_any key b _ (by omega) (by omega) HT.out).mono ?_
  rintro e w1 ⟨rfl, hb1⟩
  rw [← HS.out]
  have HB1 := Lib.hid hb1
  clear hb1
  go_wp2_with fail
  refine (sum_any key _ (HT.out.below HB1.out)).mono ?_
  rintro e w2 ⟨rfl, hb2⟩
  have HB2 := Lib.hid (HB1.out.trans (hb2.mono HB1.out.size))
  clear hb2
  go_wp2_with fail
  refine (seal_any (sumF key) b _ (by omega) hz (HT.out.below HB2.out)).mono ?_
  rintro e w3 ⟨rfl, hb3⟩
  rw [HSN.out]
  have HB3 := Lib.hid (HB2.out.trans (hb3.mono HB2.out.size))
  clear hb3
  go_wp2_with fail
  refine (abc_any _ (HT.out.below HB3.out)).mono ?_
  rintro e w4 ⟨rfl, hb4⟩
  have HB4 := Lib.hid (HB3.out.trans (hb4.mono HB3.out.size))
  clear hb4
  go_wp2_with fail
  go_ret
  exact ⟨rfl, HB4.out⟩

set_option maxRecDepth 100000 in
set_option maxHeartbeats 1600000 in
theorem sumSealed_short (key : ByteArray) (hk : key.size ≤ 140737488351232) (b : ByteArray) (hb : b.size ≤ 140737488351232) (w : World) (ht : Tab w) (h3 : key.size < 64) :
    Calls Tryd.prog 5 #[.string key, .string b] w fun e w' => e = .returned (.bool true) ∧ Below w.heap.size w w' := by
  obtain ⟨s, hs⟩ : ∃ s, s = sealF key b := ⟨_, rfl⟩
  have hs32 : s.size = 32 := by rw [hs]; exact sealF_size _ _
  have HS := Lib.hid hs
  have HT := Lib.hid ht
  clear ht hs
  have HSN := Lib.hid (show sealF (key ++ ⟨#[0]⟩) b = s by rw [sealF_zero _ _ h3, HS.out])
  have hz : (key ++ ⟨#[0]⟩ : ByteArray).size ≤ 140737488355328 := by rw [show (key ++ ⟨#[0]⟩ : ByteArray).size = key.size + 1 from ByteArray.size_append]; omega
  have h4 : (key.size : Int) ≤ 64 := by omega
  have h5 : (key.size : Int) < 64 := by omega
  go_enter Tryd.func5, Tryd.ntmps5
  go_wp2_with fail
  refine (seal_any key b _ (by omega) (by omega) HT.out).mono ?_
  rintro e w1 ⟨rfl, hb1⟩
  rw [← HS.out]
  have HB1 := Lib.hid hb1
  clear hb1
  go_wp2_with fail
  refine (seal_any key b _ (by omega) (by omega) (HT.out.below HB1.out)).mono ?_
  rintro e w3 ⟨rfl, hb3⟩
  rw [← HS.out]
  have HB3 := Lib.hid (HB1.out.trans (hb3.mono HB1.out.size))
  clear hb3
  go_wp2_with fail
  (with_reducible refine (seal_any (key ++ ⟨#[0]⟩) b _ (by omega) hz (HT.out.below HB3.out)).mono ?_)
  rintro e w5 ⟨rfl, hb5⟩
  rw [HSN.out]
  have HB5 := Lib.hid (HB3.out.trans (hb5.mono HB3.out.size))
  clear hb5
  go_wp2_with fail
  refine (abc_any _ (HT.out.below HB5.out)).mono ?_
  rintro e w4 ⟨rfl, hb4⟩
  have HB4 := Lib.hid (HB5.out.trans (hb4.mono HB5.out.size))
  clear hb4
  go_wp2_with fail
  go_ret
  exact ⟨rfl, HB4.out⟩

set_option maxRecDepth 100000 in
set_option maxHeartbeats 1600000 in
theorem sumSealed_mid (key : ByteArray) (hk : key.size ≤ 140737488351232) (b : ByteArray) (hb : b.size ≤ 140737488351232) (w : World) (ht : Tab w) (h0 : key.size = 64) :
    Calls Tryd.prog 5 #[.string key, .string b] w fun e w' => e = .returned (.bool true) ∧ Below w.heap.size w w' := by
  obtain ⟨s, hs⟩ : ∃ s, s = sealF key b := ⟨_, rfl⟩
  have hs32 : s.size = 32 := by rw [hs]; exact sealF_size _ _
  have HS := Lib.hid hs
  have HT := Lib.hid ht
  clear ht hs
  have h4 : (key.size : Int) ≤ 64 := by omega
  have h5 : (64 : Int) ≤ (key.size : Int) := by omega
  clear h0
  go_enter Tryd.func5, Tryd.ntmps5
  go_wp2_with fail
  refine (seal_any key b _ (by omega) (by omega) HT.out).mono ?_
  rintro e w1 ⟨rfl, hb1⟩
  rw [← HS.out]
  have HB1 := Lib.hid hb1
  clear hb1
  go_wp2_with fail
  refine (seal_any key b _ (by omega) (by omega) (HT.out.below HB1.out)).mono ?_
  rintro e w3 ⟨rfl, hb3⟩
  rw [← HS.out]
  have HB3 := Lib.hid (HB1.out.trans (hb3.mono HB1.out.size))
  clear hb3
  go_wp2_with fail
  refine (abc_any _ (HT.out.below HB3.out)).mono ?_
  rintro e w4 ⟨rfl, hb4⟩
  have HB4 := Lib.hid (HB3.out.trans (hb4.mono HB3.out.size))
  clear hb4
  go_wp2_with fail
  go_ret
  exact ⟨rfl, HB4.out⟩

theorem sumSealed_walk (key : ByteArray) (hk : key.size ≤ 140737488351232) (b : ByteArray) (hb : b.size ≤ 140737488351232) (w : World) (ht : Tab w) :
    Calls Tryd.prog 5 #[.string key, .string b] w fun e w' => e = .returned (.bool true) ∧ Below w.heap.size w w' := by
  by_cases h1 : (64 : Int) < (key.size : Int)
  · exact sumSealed_long key hk b hb w ht h1
  · by_cases h3 : key.size < 64
    · exact sumSealed_short key hk b hb w ht h3
    · exact sumSealed_mid key hk b hb w ht (by omega)
end Go.Proofs.YtafgbmeibnhapaaDoor
