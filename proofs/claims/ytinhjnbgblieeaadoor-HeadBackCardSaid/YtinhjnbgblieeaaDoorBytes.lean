/- Plain laws of byte strings as lists. -/
import Derived.Laws.Strings
namespace Go.Proofs.YtinhjnbgblieeaaDoor

theorem bs_ext {a b : ByteArray} (h : a.data.toList = b.data.toList) : a = b := by
  rw [ByteArray.ext_iff, ← Array.toList_inj]; exact h
theorem toList_append (a b : ByteArray) : (a ++ b).data.toList = a.data.toList ++ b.data.toList := by
  rw [ByteArray.data_append, Array.toList_append]
theorem toList_length (a : ByteArray) : a.data.toList.length = a.size := by rw [Array.length_toList]; rfl
theorem toList_extract (a : ByteArray) (i j : Nat) : (a.extract i j).data.toList = (a.data.toList.drop i).take (j - i) := by
  rw [ByteArray.data_extract, Array.toList_extract, List.extract_eq_take_drop]
theorem toList_take (a : ByteArray) (j : Nat) : (a.extract 0 j).data.toList = a.data.toList.take j := by
  rw [toList_extract]; simp
theorem toList_drop (a : ByteArray) (i : Nat) : (a.extract i a.size).data.toList = a.data.toList.drop i := by
  rw [toList_extract, List.take_of_length_le]; rw [List.length_drop, toList_length]; omega
theorem toList_mk (l : List UInt8) : (ByteArray.mk l.toArray).data.toList = l := rfl
theorem mk_toList (a : ByteArray) : (ByteArray.mk a.data.toList.toArray) = a := rfl
theorem isEmpty_false (a : ByteArray) (h : 0 < a.size) : a.toList.isEmpty = false := by
  rw [ByteArray.toList_eq]
  cases h' : a.data.toList with
  | nil => have := toList_length a; rw [h'] at this; simp at this; omega
  | cons _ _ => rfl
theorem isEmpty_true (a : ByteArray) (h : a.size = 0) : a.toList.isEmpty = true := by
  rw [ByteArray.toList_eq]
  cases h' : a.data.toList with
  | nil => rfl
  | cons _ _ => have := toList_length a; rw [h'] at this; simp at this; omega
theorem extract_append_left (a b : ByteArray) : (a ++ b).extract 0 a.size = a := by
  apply bs_ext; rw [toList_take, toList_append, List.take_left' (toList_length a)]
theorem extract_append_right (a b : ByteArray) : (a ++ b).extract a.size (a ++ b).size = b := by
  apply bs_ext; rw [toList_drop, toList_append, List.drop_left' (toList_length a)]

end Go.Proofs.YtinhjnbgblieeaaDoor
