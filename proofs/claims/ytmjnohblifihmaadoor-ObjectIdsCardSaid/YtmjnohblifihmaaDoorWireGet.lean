/- The walk of wire.Get: it returns what the plain function get reads. -/
import Derived.Test.YtmjnohblifihmaaDoorChecked
import Derived.Test.YtmjnohblifihmaaDoorNum
import Derived.Test.YtmjnohblifihmaaDoorWireLaw
import Derived.WalkKit
import Derived.WalkSpells
import Derived.WalkLawsBesides
import Derived.Lib.Hide
namespace Go.Proofs.YtmjnohblifihmaaDoor
open Go.RowKit

def getV : Option (Nat × Nat) → Value
  | none => .tuple #[.int .i64 0, .int .i64 0, .int .i64 2]
  | some (n, k) => .tuple #[.int .i64 n, .int .i64 k, .int .i64 0]

theorem getAux_drop (s : ByteArray) (k m : Nat) (h : k < s.size) : getAux k (s.data.toList.drop k) m = if 9 ≤ k then none else if k = 8 ∧ 63 < s[k].toNat then none else
      if s[k].toNat < 128 then (if 0 < k ∧ s[k].toNat = 0 then none else some (m + (s[k].toNat % 128) * 128 ^ k, k + 1))
      else getAux (k + 1) (s.data.toList.drop (k + 1)) (m + (s[k].toNat % 128) * 128 ^ k) := by
  rw [List.drop_eq_getElem_cons (by simpa using h), getAux]; rfl

theorem pow128_step (m c k : Nat) (hm : m < 128 ^ k) : m + (c % 128) * 128 ^ k < 128 ^ (k + 1) := by
  have : (c % 128) * 128 ^ k ≤ 127 * 128 ^ k := Nat.mul_le_mul_right _ (by omega)
  rw [Nat.pow_succ]; omega

theorem getAux_end9 (k : Nat) (l : List UInt8) (m : Nat) (h : 9 ≤ k) : getAux k l m = none := by
  cases l with
  | nil => simp [getAux]
  | cons c r => simp [getAux, h]

end Go.Proofs.YtmjnohblifihmaaDoor
