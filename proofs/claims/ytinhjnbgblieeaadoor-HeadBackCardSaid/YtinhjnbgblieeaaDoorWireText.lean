/- The walks of wire.PutText and wire.GetText. -/
import Derived.Test.YtinhjnbgblieeaaDoorWireGet
import Derived.Test.YtinhjnbgblieeaaDoorWirePut
namespace Go.Proofs.YtinhjnbgblieeaaDoor
open Go.RowKit
set_option linter.unusedVariables false

def textB (b s : ByteArray) : ByteArray := putB b s.size ++ s
theorem textB_size (b s : ByteArray) : (textB b s).size = b.size + (enc s.size).length + s.size := by rw [textB, ByteArray.size_append, putB_size]
theorem textB_toList (b s : ByteArray) : (textB b s).data.toList = b.data.toList ++ (enc s.size ++ s.data.toList) := by rw [textB, toList_append, putB_toList, List.append_assoc]

def getText (s : ByteArray) : ByteArray × Nat × Nat :=
  match get s.data.toList with
  | none => (⟨#[]⟩, 0, 2)
  | some (n, k) => if 4096 < n then (⟨#[]⟩, 0, 1) else if s.size < n + k then (⟨#[]⟩, 0, 2) else (s.extract k (k + n), k + n, 0)

def textV (r : ByteArray × Nat × Nat) : Value := .tuple #[.string r.1, .int .i64 r.2.1, .int .i64 r.2.2]

set_option maxRecDepth 100000 in
set_option maxHeartbeats 400000 in
theorem putText_good (b s : ByteArray) (w : World) (hb : b.size ≤ 4611686018427387904) (hs : s.size ≤ 4096) :
    Calls Tryd.prog 54 #[.string b, .string s] w fun e w' => e = .returned (.tuple #[.string (textB b s), .int .i64 0]) ∧ Below w.heap.size w w' := by
  have hl := enc_len9 s.size (by omega)
  go_enter Tryd.func54, Tryd.ntmps54
  go_wp2_with fail
  refine (put_int _ _ _ hb (by omega) (by omega)).mono ?_
  rintro e w1 ⟨rfl, h1⟩
  rw [Int.toNat_natCast]
  have hz : (putB b s.size).size ≤ 4611686018427387904 + 9 := by rw [putB_size]; omega
  go_wp2_with fail
  go_ret2
  exact ⟨rfl, h1⟩

set_option maxRecDepth 100000 in
set_option maxHeartbeats 400000 in
theorem putText_long (b s : ByteArray) (w : World) (hs : 4096 < s.size) :
    Calls Tryd.prog 54 #[.string b, .string s] w fun e w' => e = .returned (.tuple #[.string ⟨#[]⟩, .int .i64 1]) ∧ w = w' := by
  go_enter Tryd.func54, Tryd.ntmps54
  go_wp2_with fail
  go_ret2
  exact ⟨rfl, rfl⟩

set_option maxRecDepth 100000 in
set_option maxHeartbeats 400000 in
theorem getText_any (s : ByteArray) (w : World) (hs : s.size ≤ 4611686018427387904) :
    Calls Tryd.prog 62 #[.string s] w fun e w' => e = .returned (textV (getText s)) ∧ w = w' := by
  cases hg : get s.data.toList with
  | none =>
    have hr : getText s = (⟨#[]⟩, 0, 2) := by rw [getText, hg]
    rw [hr]
    have HG := Lib.hid hg; clear hg hr
    go_enter Tryd.func62, Tryd.ntmps62
    go_wp2_with fail
    refine (get_any _ _ (by unfold maxLen; omega)).mono ?_
    rintro e w1 ⟨rfl, rfl⟩
    rw [HG.out, getV]
    go_wp2_with fail
    go_ret3
    exact ⟨rfl, rfl⟩
  | some nk =>
    obtain ⟨n, k⟩ := nk
    obtain ⟨hn, hk, ht, hk1, hk9, hkl⟩ := get_some hg
    rw [toList_length] at hkl
    have hr : getText s = if 4096 < n then (⟨#[]⟩, 0, 1) else if s.size < n + k then (⟨#[]⟩, 0, 2) else (s.extract k (k + n), k + n, 0) := by rw [getText, hg]
    rw [hr]
    have HG := Lib.hid hg; clear hg hr hk ht
    by_cases h1 : 4096 < n
    · rw [if_pos h1]
      go_enter Tryd.func62, Tryd.ntmps62
      go_wp2_with fail
      refine (get_any _ _ (by unfold maxLen; omega)).mono ?_
      rintro e w1 ⟨rfl, rfl⟩
      rw [HG.out, getV]
      go_wp2_with fail
      go_ret3
      exact ⟨rfl, rfl⟩
    · rw [if_neg h1]
      by_cases h2 : s.size < n + k
      · rw [if_pos h2]
        go_enter Tryd.func62, Tryd.ntmps62
        go_wp2_with fail
        refine (get_any _ _ (by unfold maxLen; omega)).mono ?_
        rintro e w1 ⟨rfl, rfl⟩
        rw [HG.out, getV]
        go_wp2_with fail
        go_ret3
        exact ⟨rfl, rfl⟩
      · rw [if_neg h2]
        go_enter Tryd.func62, Tryd.ntmps62
        go_wp2_with fail
        refine (get_any _ _ (by unfold maxLen; omega)).mono ?_
        rintro e w1 ⟨rfl, rfl⟩
        rw [HG.out, getV]
        go_wp2_with fail
        go_ret3
        refine ⟨?_, rfl⟩
        simp [textV]

end Go.Proofs.YtinhjnbgblieeaaDoor
