/- The walk of the law WireOnly. -/
import Derived.Test.YtafgbmeibnhapaaWireGet
import Derived.Test.YtafgbmeibnhapaaWirePut
namespace Go.Proofs.Ytafgbmeibnhapaa
open Go.RowKit
set_option linter.unusedVariables false

set_option maxRecDepth 100000 in
set_option maxHeartbeats 400000 in
theorem puts_any (w : World) : Calls Try.prog 8 #[] w fun e w' => e = .returned (.bool true) ∧ Below w.heap.size w w' := by
  have hq : (putB ⟨#[120]⟩ (Int.toNat 300)) = ⟨#[120, 172, 2]⟩ := by
    have : enc 300 = [172, 2] := by rw [enc_big _ (by omega), enc_small _ (by omega)]; rfl
    show putB ⟨#[120]⟩ 300 = _
    rw [putB, this]; rfl
  have HQ := Lib.hid hq; clear hq
  go_enter Try.func8, Try.ntmps8
  go_wp2_with fail
  refine (put_int _ _ _ (by decide) (by decide) (by decide)).mono ?_
  rintro e w' ⟨rfl, hb⟩
  rw [HQ.out]
  go_wp2_with fail
  go_ret
  exact ⟨rfl, hb⟩

set_option maxRecDepth 100000 in
set_option maxHeartbeats 400000 in
theorem wireOnly_walk (s : ByteArray) (hs0 : s.size ≤ 140737488351232) (w : World) :
    Calls Try.prog 3 #[.string s] w fun e w' => e = .returned (.bool true) ∧ Below w.heap.size w w' := by
  have hs : s.size ≤ maxLen := by unfold maxLen; omega
  cases hg : get s.data.toList with
  | none =>
    have HG := Lib.hid hg; clear hg
    go_enter Try.func3, Try.ntmps3
    go_wp2_with fail
    refine (get_any _ _ hs).mono ?_
    rintro e w' ⟨rfl, rfl⟩
    rw [HG.out, getV]
    go_wp2_with fail
    refine (puts_any _).mono ?_
    rintro e w1 ⟨rfl, hb⟩
    go_wp2_with fail
    go_ret
    exact ⟨rfl, hb⟩
  | some nk =>
    obtain ⟨n, k⟩ := nk
    obtain ⟨hn, hk, ht, hk1, hk9, hkl⟩ := get_some hg
    have hkl' : k ≤ s.size := by simpa using hkl
    have he : putB { data := #[] } n = s.extract 0 k := by
      rw [putB, ← ht, ByteArray.ext_iff, ← Array.toList_inj]
      simp
    have HG := Lib.hid hg; clear hg
    have HT := Lib.hid ht; clear ht
    have HE := Lib.hid he; clear he
    clear hk
    go_enter Try.func3, Try.ntmps3
    go_wp2_with fail
    refine (get_any _ _ hs).mono ?_
    rintro e w' ⟨rfl, rfl⟩
    rw [HG.out, getV]
    go_wp2_with fail
    refine (put_int _ _ _ (by decide) (by omega) (by omega)).mono ?_
    rintro e w1 ⟨rfl, hb⟩
    rw [Int.toNat_natCast, HE.out]
    go_wp2_with fail
    refine (puts_any _).mono ?_
    rintro e w2 ⟨rfl, hb2⟩
    go_wp2_with fail
    go_ret
    exact ⟨rfl, hb.trans (hb2.mono hb.size)⟩

end Go.Proofs.Ytafgbmeibnhapaa
