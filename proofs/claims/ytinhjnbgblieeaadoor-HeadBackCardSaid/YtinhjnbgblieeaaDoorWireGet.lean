/- The walk of wire.Get: it returns what the plain function get reads. -/
import Derived.Test.YtinhjnbgblieeaaDoorChecked
import Derived.Test.YtinhjnbgblieeaaDoorNum
import Derived.Test.YtinhjnbgblieeaaDoorWireLaw
import Derived.WalkKit
import Derived.WalkSpells
import Derived.WalkLawsBesides
import Derived.Lib.Hide
namespace Go.Proofs.YtinhjnbgblieeaaDoor
open Go.RowKit

def getV : Option (Nat × Nat) → Value
  | none => .tuple #[.int .i64 0, .int .i64 0, .int .i64 2]
  | some (n, k) => .tuple #[.int .i64 n, .int .i64 k, .int .i64 0]

theorem getAux_drop (s : ByteArray) (k m : Nat) (h : k < s.size) : getAux k (s.data.toList.drop k) m = if 9 ≤ k then none else if k = 8 ∧ 63 < s[k].toNat then none else
      if s[k].toNat < 128 then (if 0 < k ∧ s[k].toNat = 0 then none else some (m + (s[k].toNat % 128) * 128 ^ k, k + 1))
      else getAux (k + 1) (s.data.toList.drop (k + 1)) (m + (s[k].toNat % 128) * 128 ^ k) := by
  rw [List.drop_eq_getElem_cons (by simpa using h), getAux]; rfl

theorem pow128_step (m c k : Nat) (hm : m < 128 ^ k) : m + (c % 128) * 128 ^ k < 128 ^ (k + 1) := by
  have : (c % 128) * 128 ^ k ≤ 127 * 128 ^ k := Nat.mul_le_mul_right _ (by omega)
  rw [Nat.pow_succ]; omega

theorem getAux_end9 (k : Nat) (l : List UInt8) (m : Nat) (h : 9 ≤ k) : getAux k l m = none := by
  cases l with
  | nil => simp [getAux]
  | cons c r => simp [getAux, h]

set_option maxRecDepth 100000 in
set_option maxHeartbeats 400000 in
theorem get_any (s : ByteArray) (w : World) (hs : s.size ≤ maxLen) :
    Calls Tryd.prog 61 #[.string s] w fun e w' => e = .returned (getV (get s.data.toList)) ∧ w = w' := by
  unfold maxLen at hs
  go_enter Tryd.func61, Tryd.ntmps61
  go_wp2
  go_loop [5, 6] (fun n i => ∃ k m : Nat, k ≤ s.size ∧ k ≤ 9 ∧ i = .int .i64 k ∧ n = .int .i64 m ∧ m < 128 ^ k ∧ getAux k (s.data.toList.drop k) m = get s.data.toList) (fun _ i => s.size - (intOf i).toNat)
  case atStart => exact ⟨0, 0, Nat.zero_le _, by omega, rfl, rfl, by simp, rfl⟩
  case round =>
    obtain ⟨k, m, hk, hk9, rfl, rfl, hm, hg⟩ := hrel
    by_cases hlt : k < s.size
    · have hd := getAux_drop s k m hlt
      rw [hg] at hd
      have hcl : s[k].toNat < 256 := s[k].toNat_lt
      have hst := pow128_step m s[k].toNat k hm
      have HD := Lib.hid hd; clear hd
      have HG := Lib.hid hg; clear hg
      by_cases h9 : k < 9
      · by_cases h8 : k = 8
        · subst h8
          have HA := Lib.hid (acc_eq 8 m s[8].toNat (by omega) hm hcl); clear hst
          have HM := Lib.hid hm; clear hm
          by_cases h63 : 63 < s[8].toNat
          · go_wp2
            go_ret3
            exact ⟨by rw [HD.out, if_neg (by omega), if_pos ⟨trivial, h63⟩]; rfl, rfl⟩
          · have hA := HA.out (fun _ => by omega)
            by_cases h0 : s[8].toNat = 0
            · have hb : ((s[8].toNat : Int) == 0) = true := by simpa using h0
              have HH := Lib.hid h0; clear h0
              have HA' := Lib.hid hA; clear hA HA
              go_wp2
              go_ret3
              exact ⟨by rw [HD.out, if_neg (by omega), if_neg (by omega), if_pos (by omega), if_pos ⟨by omega, HH.out⟩]; rfl, rfl⟩
            · have hb : ((s[8].toNat : Int) == 0) = false := by simpa using h0
              have HH := Lib.hid h0; clear h0
              have HA' := Lib.hid hA; clear hA HA
              go_wp2
              go_ret3
              refine ⟨?_, rfl⟩
              have e := HA'.out.1
              simp only [Nat.reduceMul, Int.reducePow] at e
              have h0 := HH.out
              rw [HD.out, if_neg (by omega), if_neg (by omega), if_pos (by omega), if_neg (by omega), getV]
              simp only [Nat.reducePow, Array.getD_eq_getD_getElem?, Int.reducePow, Nat.reduceMul] at *
              simp [e]
        · have hst' := hst
          have hA := acc_eq k m s[k].toNat (by omega) hm hcl (fun h => absurd h h8)
          have HA := Lib.hid hA; clear hA
          have HM := Lib.hid hm; clear hm
          have HS := Lib.hid hst; clear hst hst'
          by_cases h128 : s[k].toNat < 128
          · by_cases h0 : s[k].toNat = 0
            · have hb : ((s[k].toNat : Int) == 0) = true := by simpa using h0
              have HH := Lib.hid h0; clear h0
              by_cases hk0 : 0 < k
              · go_wp2
                go_ret3
                exact ⟨by rw [HD.out, if_neg (by omega), if_neg (by omega), if_pos h128, if_pos ⟨hk0, HH.out⟩]; rfl, rfl⟩
              · go_wp2
                go_ret3
                refine ⟨?_, rfl⟩
                rw [HD.out, if_neg (by omega), if_neg (by omega), if_pos h128, if_neg (by omega), getV]
                simp [HA.out.1]
            · have hb : ((s[k].toNat : Int) == 0) = false := by simpa using h0
              have HH := Lib.hid h0; clear h0
              by_cases hk0 : 0 < k
              all_goals
                go_wp2
                go_ret3
                refine ⟨?_, rfl⟩
                have h0 := HH.out
                rw [HD.out, if_neg (by omega), if_neg (by omega), if_pos h128, if_neg (by omega), getV]
                simp [HA.out.1]
          · go_wp2
            go_round
            case rel =>
              refine ⟨k + 1, m + (s[k].toNat % 128) * 128 ^ k, by omega, by omega, by go_num, by rw [HA.out.1], HS.out, ?_⟩
              rw [HD.out, if_neg (by omega), if_neg (by omega), if_neg h128]
            case measure => simp [intOf]; omega
      · have h9' : k = 9 := by omega
        subst h9'
        have e := HG.out
        rw [getAux_end9 9 _ _ (by omega)] at e
        have HE := Lib.hid e; clear e HG HD hst
        have HM := Lib.hid hm; clear hm
        go_wp2
        go_ret3
        exact ⟨by rw [← HE.out]; rfl, rfl⟩
    · rw [List.drop_of_length_le (by simp; omega)] at hg
      have e : get s.data.toList = none := by rw [← hg]; simp [getAux]
      have HE := Lib.hid e; clear e hg
      have HM := Lib.hid hm; clear hm
      go_wp2
      go_ret3
      exact ⟨by rw [HE.out]; rfl, rfl⟩

end Go.Proofs.YtinhjnbgblieeaaDoor
