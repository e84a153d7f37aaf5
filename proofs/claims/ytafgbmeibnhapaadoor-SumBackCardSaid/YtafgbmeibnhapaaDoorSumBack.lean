/- The walk of SumBack. -/
import Derived.Test.YtafgbmeibnhapaaDoorSumUnhex
import Derived.Test.YtafgbmeibnhapaaDoorSha
namespace Go.Proofs.YtafgbmeibnhapaaDoor
open Go.RowKit
set_option linter.unusedVariables false
set_option linter.unusedSimpArgs false

theorem unE_two {s : ByteArray} (h : unE s ≠ 0) : unE s = 2 ∧ unR s = ⟨#[]⟩ := by
  unfold unE at h ⊢
  unfold unR
  split at h
  · exact absurd rfl h
  · rename_i hk
    rw [if_neg hk, if_neg hk]
    exact ⟨rfl, rfl⟩
theorem int_eq_of {a b : Nat} (h : a = b) : (a : Int) = (b : Int) := congrArg _ h

set_option maxRecDepth 100000 in
set_option maxHeartbeats 1600000 in
theorem sumBack_walk (b : ByteArray) (hb : b.size ≤ 140737488351232) (s : ByteArray) (hs : s.size ≤ 140737488351232) (w : World) (ht : Tab w) :
    Calls Tryd.prog 6 #[.string b, .string s] w fun e w' => e = .returned (.bool true) ∧ Below w.heap.size w w' := by
  have HT := Lib.hid ht
  obtain ⟨h, hh⟩ : ∃ h, h = hexF b := ⟨_, rfl⟩
  have hu := un_hex b
  rw [← hh] at hu
  have hsz : h.size = 2 * b.size := by rw [hh]; exact hexF_size b
  have hle : h.size ≤ 281474976710656 := by omega
  have hi : (h.size : Int) = 2 * (b.size : Int) := by omega
  have HI := Lib.hid hi
  have HU := Lib.hid hu
  have HH := Lib.hid hh
  clear ht hh hu hsz hi
  have hry : (unR s).size ≤ 140737488355328 := by have := unR_size s; omega
  by_cases he : unE s = 0
  · have HX := Lib.hid (hex_un he)
    have HE := Lib.hid he
    clear he
    go_enter Tryd.func6, Tryd.ntmps6
    go_wp2_with fail
    refine (hex_any b _ (by omega)).mono ?_
    rintro e w1 ⟨rfl, hb1⟩
    rw [← HH.out]
    have HB1 := Lib.hid hb1
    clear hb1
    go_wp2_with fail
    refine (unhex_any h _ hle).mono ?_
    rintro e w2 ⟨rfl, hb2⟩
    rw [HU.out.1, HU.out.2]
    have HB2 := Lib.hid (HB1.out.trans (hb2.mono HB1.out.size))
    clear hb2
    have hi := HI.out
    go_wp2_with fail
    clear hi
    refine (abc_any _ (HT.out.below HB2.out)).mono ?_
    rintro e w3 ⟨rfl, hb3⟩
    have HB3 := Lib.hid (HB2.out.trans (hb3.mono HB2.out.size))
    clear hb3
    go_wp2_with fail
    refine (unhex_any s _ (by omega)).mono ?_
    rintro e w4 ⟨rfl, hb4⟩
    rw [HE.out]
    have HB4 := Lib.hid (HB3.out.trans (hb4.mono HB3.out.size))
    clear hb4
    go_wp2_with fail
    refine (hex_any (unR s) _ hry).mono ?_
    rintro e w5 ⟨rfl, hb5⟩
    rw [HX.out]
    have HB5 := Lib.hid (HB4.out.trans (hb5.mono HB4.out.size))
    clear hb5
    go_wp2_with fail
    go_ret
    exact ⟨rfl, HB5.out⟩
  · have he2 := unE_two he
    have HE := Lib.hid he2
    clear he he2 hry
    go_enter Tryd.func6, Tryd.ntmps6
    go_wp2_with fail
    refine (hex_any b _ (by omega)).mono ?_
    rintro e w1 ⟨rfl, hb1⟩
    rw [← HH.out]
    have HB1 := Lib.hid hb1
    clear hb1
    go_wp2_with fail
    refine (unhex_any h _ hle).mono ?_
    rintro e w2 ⟨rfl, hb2⟩
    rw [HU.out.1, HU.out.2]
    have HB2 := Lib.hid (HB1.out.trans (hb2.mono HB1.out.size))
    clear hb2
    have hi := HI.out
    go_wp2_with fail
    clear hi
    refine (abc_any _ (HT.out.below HB2.out)).mono ?_
    rintro e w3 ⟨rfl, hb3⟩
    have HB3 := Lib.hid (HB2.out.trans (hb3.mono HB2.out.size))
    clear hb3
    go_wp2_with fail
    refine (unhex_any s _ (by omega)).mono ?_
    rintro e w4 ⟨rfl, hb4⟩
    rw [HE.out.1, HE.out.2]
    have HB4 := Lib.hid (HB3.out.trans (hb4.mono HB3.out.size))
    clear hb4
    go_wp2_with fail
    go_ret
    exact ⟨rfl, HB4.out⟩
end Go.Proofs.YtafgbmeibnhapaaDoor
