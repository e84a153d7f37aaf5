/- The walk of SumSealed. -/
import Derived.Test.YtinhjnbgblieeaaDoorSumSeal
import Derived.Test.YtinhjnbgblieeaaDoorSumAbcWalk
namespace Go.Proofs.YtinhjnbgblieeaaDoor
open Go.RowKit
set_option linter.unusedVariables false
set_option linter.unusedSimpArgs false

theorem keyN_keyN (key : ByteArray) : keyN (keyN key) = keyN key := by
  have h := keyN_size key
  rw [show keyN (keyN key) = if (keyN key).size ≤ 64 then keyN key else sumF (keyN key) from rfl, if_pos h]
theorem sealF_keyN (key b : ByteArray) : sealF (keyN key) b = sealF key b := by unfold sealF; rw [keyN_keyN]
theorem sealF_size (key b : ByteArray) : (sealF key b).size = 32 := sumF_size _
theorem padB_zero (c : UInt8) (key : ByteArray) (i : Nat) : padB c (key ++ ⟨#[0]⟩) i = padB c key i := by
  have hsz : (key ++ ⟨#[0]⟩ : ByteArray).size = key.size + 1 := ByteArray.size_append
  have hx : (key ++ ⟨#[0]⟩ : ByteArray).data.toList = key.data.toList ++ [0] := toList_append _ _
  unfold padB
  rw [hsz, hx]
  have hl := toList_length key
  by_cases h : i < key.size
  · rw [if_pos h, if_pos (by omega), List.getD, List.getD, List.getElem?_append_left (by omega)]
  · rw [if_neg h]
    by_cases h2 : i = key.size
    · rw [if_pos (by omega), List.getD, List.getElem?_append_right (by omega), hl, h2, Nat.sub_self]
      simp
    · rw [if_neg (by omega)]
theorem padL_zero (c : UInt8) (key : ByteArray) : ∀ n, padL c (key ++ ⟨#[0]⟩) n = padL c key n
  | 0 => rfl
  | n + 1 => by rw [padL, padL, padL_zero c key n, padB_zero]
theorem sealF_zero (key b : ByteArray) (h : key.size < 64) : sealF (key ++ ⟨#[0]⟩) b = sealF key b := by
  have hsz : (key ++ ⟨#[0]⟩ : ByteArray).size = key.size + 1 := ByteArray.size_append
  have h1 : keyN key = key := by unfold keyN; rw [if_pos (by omega)]
  have h2 : keyN (key ++ ⟨#[0]⟩) = key ++ ⟨#[0]⟩ := by unfold keyN; rw [if_pos (by omega)]
  unfold sealF padS
  rw [h1, h2, padL_zero, padL_zero]

end Go.Proofs.YtinhjnbgblieeaaDoor
