/- The walk of PackThin. -/
import Derived.Test.YtalkheljejkpiaaDoorPack5
import Derived.Test.YtalkheljejkpiaaDoorMer
namespace Go.Proofs.YtalkheljejkpiaaDoor
open Go.RowKit
set_option linter.unusedVariables false
set_option linter.unusedSimpArgs false

set_option maxRecDepth 100000 in
set_option maxHeartbeats 3200000 in
theorem packThin_walk {w : World} (ht : Tab w) (v0 : Value) (len0 : Nat) (z0 : List ByteArray) (f0 : rdRow w 1 v0 len0 (z0.map .string)) (g0 : ∀ s ∈ z0, s.size ≤ 140737488351232) (m0 : len0 * 16 ≤ 140737488351232) (v1 : Value) (len1 : Nat) (z1 : List ByteArray) (f1 : rdRow w 1 v1 len1 (z1.map .string)) (g1 : ∀ s ∈ z1, s.size ≤ 140737488351232) (m1 : len1 * 16 ≤ 140737488351232) :
    Calls Tryd.prog 5 #[v0, v1] w fun e w' => e = .returned (.bool true) ∧ Below w.heap.size w w' := by
  have HT := Lib.hid (fun wr (h : Below w.heap.size w wr) => ht.below h)
  obtain ⟨hr0, hs0, hm0⟩ := rdS_in f0 g0 m0
  obtain ⟨hr1, hs1, hm1⟩ := rdS_in f1 g1 m1
  have HR0 := Lib.hid (fun wr (h : Below w.heap.size w wr) => hr0.below h)
  have HR1 := Lib.hid (fun wr (h : Below w.heap.size w wr) => hr1.below h)
  have HS1 := Lib.hid hs1
  have HC1 := Lib.hid (write_any z0 z1 v0 v1 w hr0 hr1 hs0 hs1 ht)
  obtain ⟨⟨s, e0⟩, hq⟩ : ∃ q, q = writeF sumF z0 z1 := ⟨_, rfl⟩
  rw [← hq] at HC1
  have HQ := Lib.hid hq.symm
  have HB0 := Lib.hid (Below.refl w.heap.size w)
  have HM0 := Lib.hid hm0
  have HM1 := Lib.hid hm1
  obtain ⟨a1, a2_, rfl⟩ := rd_form hr0
  obtain ⟨b1, b2, rfl⟩ := rd_form hr1
  clear f0 g0 m0 f1 g1 m1 hr0 hs0 hm0 hr1 hs1 hm1 ht hq
  go_enter Tryd.func5, Tryd.ntmps5
  have HC := Lib.hid HC1.out
  clear HC1
  go_wp2_with fail
  (with_reducible refine HC.out.mono ?_)
  rintro e w1 ⟨rfl, hb⟩
  have HB1 := Lib.hid (HB0.out.trans hb)
  clear HC hb
  by_cases he : e0 = 0
  · subst he
    have HSZ := Lib.hid (show s.size ≤ 140737488355328 ∧ 34 ≤ s.size by
      obtain ⟨h1, h2, h3, h4⟩ := writeF_ok sumF HQ.out
      have h5 := write_size sumF sumF_size HQ.out
      have h6 := sizeP_bound h3 z0.length (Nat.le_refl _)
      rw [List.take_length] at h6
      have h7 := packB_size sumF z1 z0
      have h8 : s.size = (packB sumF z1 z0).size + 32 := by rw [h4, ByteArray.size_append, sumF_size]
      omega)
    have HTH := Lib.hid (read_thin sumF sumF_size HQ.out)
    have HRD := Lib.hid (read_any' s [] (.slice none 0 0) w1 HSZ.out.1 (rdS_nil _) (fun _ h => by cases h) (HT.out _ HB1.out))
    obtain ⟨⟨l, f⟩, hf⟩ : ∃ q, q = readF sumF s [] := ⟨_, rfl⟩
    rw [← hf] at HRD HTH
    clear hf
    go_wp2_with fail
    (with_reducible refine HRD.out.mono ?_)
    rintro e w2 ⟨v, rfl, hr, hb⟩
    have HB2 := Lib.hid (HB1.out.trans (hb.mono HB1.out.size))
    rcases HTH.out with h | ⟨h, h2⟩
    · injection h with h1 h2
      subst h1 h2
      have hsm := same_any l l v (.slice a1 l.length a2_) w2 hr (HR0.out _ HB2.out)
      rw [show decide (l = l) = true from decide_eq_true rfl] at hsm
      have HSM := Lib.hid hsm
      clear hsm hr hb HRD
      have HC := Lib.hid (HSM.out)
      go_wp2_with fail
      (with_reducible refine HC.out.mono ?_)
      rintro e w3 ⟨rfl, hb⟩
      have HB3 := Lib.hid (HB2.out.trans (hb.mono HB2.out.size))
      clear HC hb
      have HC := Lib.hid (packs_any w3 (HT.out _ HB3.out))
      go_wp2_with fail
      (with_reducible refine HC.out.mono ?_)
      rintro e w4 ⟨rfl, hb⟩
      have HB4 := Lib.hid (HB3.out.trans (hb.mono HB3.out.size))
      clear HC hb
      go_wp2_with fail
      go_ret
      exact ⟨rfl, HB4.out⟩
    · injection h with h1 h2_
      subst h1 h2_
      have hlen : decide ((0 : Int) < (z1.length : Int)) = true := decide_eq_true (by omega)
      have hlen2 : decide (0 < z1.length) = true := decide_eq_true h2
      clear hr hb HRD h2
      have HC := Lib.hid (packs_any w2 (HT.out _ HB2.out))
      go_wp2_with fail
      (with_reducible refine HC.out.mono ?_)
      rintro e w3 ⟨rfl, hb⟩
      have HB3 := Lib.hid (HB2.out.trans (hb.mono HB2.out.size))
      clear HC hb
      go_wp2_with fail
      go_ret
      exact ⟨rfl, HB3.out⟩
  · have n1 : (e0 == 0) = false := beq_eq_false_iff_ne.2 he
    have n2 : (e0 != 0) = true := by rw [bne, n1]; rfl
    clear he
    have HC := Lib.hid (packs_any w1 (HT.out _ HB1.out))
    go_wp2_with fail
    (with_reducible refine HC.out.mono ?_)
    rintro e w2 ⟨rfl, hb⟩
    have HB2 := Lib.hid (HB1.out.trans (hb.mono HB1.out.size))
    clear HC hb
    go_wp2_with fail
    go_ret
    exact ⟨rfl, HB2.out⟩
end Go.Proofs.YtalkheljejkpiaaDoor
