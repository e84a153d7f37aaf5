/- The walk of wire.Put: it returns the bytes, and behind them the encoding of the number. -/
import Derived.Test.YtinhjnbgblieeaaDoorChecked
import Derived.Test.YtinhjnbgblieeaaDoorNum
import Derived.Test.YtinhjnbgblieeaaDoorWireLaw
import Derived.Test.YtinhjnbgblieeaaDoorKit
namespace Go.Proofs.YtinhjnbgblieeaaDoor
open Go.RowKit

theorem info_u8W : infoIs Tryd.prog 5 (.int .u8 0) 1 1 := by unfold infoIs; kernel_rfl

def putB (b : ByteArray) (n : Nat) : ByteArray := b ++ ⟨(enc n).toArray⟩
theorem putB_size (b : ByteArray) (n : Nat) : (putB b n).size = b.size + (enc n).length := by rw [putB, ByteArray.size_append]; rfl
theorem putB_toList (b : ByteArray) (n : Nat) : (putB b n).data.toList = b.data.toList ++ enc n := by rw [putB, toList_append]

theorem enc_step {n m : Nat} {pre : List UInt8} (h : enc n = pre ++ enc m) (hm : 127 < m) :
    enc n = (pre ++ [UInt8.ofNat (m % 128 + 128)]) ++ enc (m / 128) ∧ bvs (pre ++ [UInt8.ofNat (m % 128 + 128)]) = bvs pre ++ [.int .u8 (bits .or .u8 ((m : Int) % 256) 128)] := by
  refine ⟨by rw [h, enc_big m (by omega)]; simp, ?_⟩
  rw [bvs_append, bvs_one, toNat_ofNat _ (by omega)]
  have := or128 m
  rw [this]

theorem enc_last {n m : Nat} {pre : List UInt8} (h : enc n = pre ++ enc m) (hm : ¬ 127 < m) :
    enc n = pre ++ [UInt8.ofNat m] ∧ bvs (pre ++ [UInt8.ofNat m]) = bvs pre ++ [.int .u8 (m : Int)] := by
  refine ⟨by rw [h, enc_small m (by omega)], ?_⟩
  rw [bvs_append, bvs_one, toNat_ofNat _ (by omega)]

set_option maxRecDepth 100000 in
set_option maxHeartbeats 400000 in
theorem put_good (b : ByteArray) (n : Nat) (w : World) (hb : b.size ≤ 4611686018427387904) (hn : n < 4611686018427387904) :
    Calls Tryd.prog 53 #[.string b, .int .i64 n] w fun e w' => e = .returned (.tuple #[.string (putB b n), .int .i64 0]) ∧ Below w.heap.size w w' := by
  have hlen := enc_len9 n hn
  go_enter Tryd.func53, Tryd.ntmps53
  go_wp2
  go_loopw [1, 6] (fun i v wr => ∃ (pre : List UInt8) (m : Nat), i = .int .i64 m ∧ m < 4611686018427387904 ∧ enc n = pre ++ enc m ∧ wr.ownsRow w.heap.size 5 1 v pre.length (bvs pre) ∧ Below w.heap.size w wr) (fun i _ _ => (intOf i).toNat)
  case atStart => exact ⟨[], n, rfl, hn, rfl, World.ownsRow_nil _ _ _ _, Below.refl _ _⟩
  case round =>
    obtain ⟨pre, m, rfl, hm, he, hown, hbel⟩ := hrel
    have hsz := hbel.size
    have hpl : pre.length ≤ 9 := by rw [he] at hlen; simp at hlen; omega
    by_cases h127 : 127 < m
    · obtain ⟨h1, h2⟩ := enc_step he h127
      have H1 := Lib.hid h1; have H2 := Lib.hid h2; clear he h1 h2
      go_wp2_with (first | (at_builtin; refine wpList_append1 rfl _ _ 74 rfl info_u8W Tryd.underlying74 rfl (by decide) (by decide) hown hbel (Nat.le_refl _) hsz rfl (by simp [Value.oneCell']) (by omega) rfl rfl ?_; intro v' w1 hown' hb' hlt))
      go_roundw
      case rel => exact ⟨_, m / 128, by go_num, by omega, H1.out, by rw [H2.out]; simpa using hown', hb'⟩
      case measure => simp [intOf]; omega
    · obtain ⟨h1, h2⟩ := enc_last he h127
      have H1 := Lib.hid h1; have H2 := Lib.hid h2; clear he h1 h2
      have hmod : (m : Int) % 256 = m := by omega
      go_wp2_with (first | (at_builtin; refine wpList_append1 rfl _ _ 74 rfl info_u8W Tryd.underlying74 rfl (by decide) (by decide) hown hbel (Nat.le_refl _) hsz rfl (by simp [Value.oneCell']) (by omega) rfl rfl ?_; intro v' w1 hown' hb' hlt) | (refine wpList_bytes_string rfl _ _ _ _ rfl Tryd.underlying74 Tryd.underlying5 Tryd.underlying9 (l := pre ++ [UInt8.ofNat m]) (n := pre.length + 1) (v := v') (by rw [H2.out]; exact rdRow_of_owns hown') rfl ?_))

      go_ret2
      refine ⟨?_, hb'⟩
      rw [putB, H1.out]; rfl
set_option maxRecDepth 100000 in
set_option maxHeartbeats 400000 in
theorem put_bad (b : ByteArray) (n : Int) (w : World) (hn : n < 0 ∨ 4611686018427387904 ≤ n) :
    Calls Tryd.prog 53 #[.string b, .int .i64 n] w fun e w' => e = .returned (.tuple #[.string ⟨#[]⟩, .int .i64 3]) ∧ w = w' := by
  by_cases h0 : n < 0
  all_goals
    go_enter Tryd.func53, Tryd.ntmps53
    go_wp2
    go_ret2
    exact ⟨rfl, rfl⟩

theorem put_int (b : ByteArray) (n : Int) (w : World) (hb : b.size ≤ 4611686018427387904) (h0 : 0 ≤ n) (hn : n < 4611686018427387904) :
    Calls Tryd.prog 53 #[.string b, .int .i64 n] w fun e w' => e = .returned (.tuple #[.string (putB b n.toNat), .int .i64 0]) ∧ Below w.heap.size w w' := by
  have := put_good b n.toNat w hb (by omega)
  rwa [Int.toNat_of_nonneg h0] at this

end Go.Proofs.YtinhjnbgblieeaaDoor
