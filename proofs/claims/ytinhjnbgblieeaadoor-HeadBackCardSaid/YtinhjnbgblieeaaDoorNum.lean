/- Plain laws on numbers and bits: what the program's bit operations come to as arithmetic. -/
import Derived.Laws.BitsAllLaws
import Derived.IntWalk
import Derived.RowKit
namespace Go.Proofs.YtinhjnbgblieeaaDoor
open Go.RowKit

theorem or_i64_nat (a b : Nat) (ha : a < 4611686018427387904) (hb : b < 4611686018427387904) :
    bits .or .i64 (a : Int) (b : Int) = ((a ||| b : Nat) : Int) := by
  have hx : a ||| b < 2 ^ 62 := Nat.or_lt_two_pow (by omega) (by omega)
  have h1 : (BitVec.ofInt 64 (a : Int)).toNat = a := by
    rw [BitVec.ofInt_natCast, BitVec.toNat_ofNat]; exact Nat.mod_eq_of_lt (by omega)
  have h2 : (BitVec.ofInt 64 (b : Int)).toNat = b := by
    rw [BitVec.ofInt_natCast, BitVec.toNat_ofNat]; exact Nat.mod_eq_of_lt (by omega)
  show IntKind.i64.wrap ((BitVec.ofInt 64 (a : Int) ||| BitVec.ofInt 64 (b : Int)).toNat : Int) = _
  rw [BitVec.toNat_or, h1, h2, IntKind.wrap_i64]
  omega

theorem and127 (c : Nat) (hc : c < 256) : bits .and .u8 (c : Int) 127 = ((c % 128 : Nat) : Int) := by
  have h := u8_and_nat c 127 hc (by omega)
  have e : c &&& 127 = c % 128 := Nat.and_two_pow_sub_one_eq_mod c 7
  rw [e] at h; exact h

theorem or128 (m : Nat) : bits .or .u8 ((m : Int) % 256) 128 = ((m % 128 + 128 : Nat) : Int) := by
  have h := u8_or_nat (m % 256) 128 (by omega) (by omega)
  have e : (m % 256 ||| 128) = m % 128 + 128 := by
    have : ∀ c, c < 256 → (c ||| 128) = c % 128 + 128 := by decide +kernel
    rw [this _ (by omega)]; omega
  rw [e] at h
  rw [← h]; congr 1

theorem pow128 (k : Nat) : 2 ^ (7 * k) = 128 ^ k := by
  rw [show (128 : Nat) = 2 ^ 7 from rfl, ← Nat.pow_mul]

theorem or_shift (m x k : Nat) (hm : m < 128 ^ k) : m ||| (x * 128 ^ k) = m + x * 128 ^ k := by
  rw [← pow128] at *
  rw [← Nat.shiftLeft_eq, Nat.or_comm, Nat.add_comm, Nat.shiftLeft_add_eq_or_of_lt hm]

theorem pow128_le (k : Nat) (hk : k ≤ 8) : 128 ^ k ≤ 72057594037927936 := by
  have : (128 : Nat) ^ k ≤ 128 ^ 8 := Nat.pow_le_pow_right (by omega) hk
  simpa using this

theorem acc_eq (k m c : Nat) (hk : k ≤ 8) (hm : m < 128 ^ k) (hc : c < 256) (h8 : k = 8 → c ≤ 63) :
    bits .or .i64 (m : Int) (wrap64 (wrap64 (bits .and .u8 (c : Int) 127) * 2 ^ (7 * k))) = ((m + (c % 128) * 128 ^ k : Nat) : Int) ∧ m + (c % 128) * 128 ^ k < 4611686018427387904 := by
  have hp := pow128_le k hk
  have hb : (c % 128) * 128 ^ k ≤ 4539628424389459968 := by
    by_cases h : k = 8
    · subst h; have := h8 rfl; have : (128 : Nat) ^ 8 = 72057594037927936 := by decide
      rw [this]; omega
    · have : (128 : Nat) ^ k ≤ 128 ^ 7 := Nat.pow_le_pow_right (by omega) (by omega)
      have e7 : (128 : Nat) ^ 7 = 562949953421312 := by decide
      have : (c % 128) * 128 ^ k ≤ 127 * 562949953421312 := Nat.mul_le_mul (by omega) (by omega)
      omega
  rw [and127 c hc]
  have e1 : wrap64 ((c % 128 : Nat) : Int) = ((c % 128 : Nat) : Int) := IntWalk.wrap64_in _ (by omega)
  have e2 : ((c % 128 : Nat) : Int) * 2 ^ (7 * k) = (((c % 128) * 128 ^ k : Nat) : Int) := by
    rw [← pow128]; simp
  rw [e1, e2, IntWalk.wrap64_in _ (by omega), or_i64_nat _ _ (by omega) (by omega), or_shift _ _ _ hm]
  exact ⟨rfl, by omega⟩

end Go.Proofs.YtinhjnbgblieeaaDoor
