/- The walk of PackBack. -/
import Derived.Test.YtalkheljejkpiaaDoorPack5
import Derived.Test.YtalkheljejkpiaaDoorMer
import Derived.Test.YtalkheljejkpiaaDoorAppW
namespace Go.Proofs.YtalkheljejkpiaaDoor
open Go.RowKit
set_option linter.unusedVariables false
set_option linter.unusedSimpArgs false

theorem svs_one' {ss : List ByteArray} : ∀ y ∈ svs ss, y.oneCell' = true := by
  intro y hy
  obtain ⟨s, _, rfl⟩ := List.mem_map.1 hy
  rfl
theorem svs_append' (a b : List ByteArray) : svs (a ++ b) = svs a ++ svs b := by simp [svs]
/-- The last of an id is not x: so there are two. -/
theorem byF_twin {out all : List ByteArray} {x : ByteArray} (hx : x ∈ out) (hn : byF sumF out (sumF x) ≠ some x) (hs : ∀ s ∈ out, s ∈ all) : Tw all := by
  apply Classical.byContradiction
  intro hc
  refine hn (byF_of sumF hx (fun y hy h => ?_))
  apply Classical.byContradiction
  intro hne
  exact hc (Tw_of (hs y hy) (hs x hx) hne h)
theorem sizeP_eq (l : List ByteArray) : sizeP l = (l.map fun s => s.size + 3).sum := rfl
theorem sizeP_step {l : List ByteArray} {k : Nat} (h : k < l.length) : sizeP (l.take (k + 1)) = sizeP (l.take k) + ((l.getD k noB).size + 3) := by rw [sizeP_take h]; omega
set_option maxRecDepth 100000 in
set_option maxHeartbeats 3200000 in
theorem packBack_walk {w : World} (ht : Tab w) (v0 : Value) (len0 : Nat) (z0 : List ByteArray) (f0 : rdRow w 1 v0 len0 (z0.map .string)) (g0 : ∀ s ∈ z0, s.size ≤ 140737488351232) (m0 : len0 * 16 ≤ 140737488351232) (v1 : Value) (len1 : Nat) (z1 : List ByteArray) (f1 : rdRow w 1 v1 len1 (z1.map .string)) (g1 : ∀ s ∈ z1, s.size ≤ 140737488351232) (m1 : len1 * 16 ≤ 140737488351232)
    (v2 : Value) (len2 : Nat) (z2 : List ByteArray) (f2 : rdRow w 1 v2 len2 (z2.map .string)) (g2 : ∀ s ∈ z2, s.size ≤ 140737488351232) (m2 : len2 * 16 ≤ 140737488351232) :
    Calls Tryd.prog 3 #[v0, v1, v2] w fun e w' => e = .returned (.bool true) ∧ Below w.heap.size w w' := by
  obtain ⟨hr2, hs2, hm2⟩ := rdS_in f2 g2 m2
  have HR2 := Lib.hid (fun wr (h : Below w.heap.size w wr) => hr2.below h)
  have HS2 := Lib.hid hs2
  have HM2 := Lib.hid hm2
  have HS0 := Lib.hid (rdS_in f0 g0 m0).2.1
  obtain ⟨c1, c2, rfl⟩ := rd_form hr2
  clear f2 g2 m2 hr2 hs2 hm2
  have HT := Lib.hid (fun wr (h : Below w.heap.size w wr) => ht.below h)
  obtain ⟨hr0, hs0, hm0⟩ := rdS_in f0 g0 m0
  obtain ⟨hr1, hs1, hm1⟩ := rdS_in f1 g1 m1
  have HR0 := Lib.hid (fun wr (h : Below w.heap.size w wr) => hr0.below h)
  have HR1 := Lib.hid (fun wr (h : Below w.heap.size w wr) => hr1.below h)
  have HS1 := Lib.hid hs1
  have HC1 := Lib.hid (write_any z0 z1 v0 v1 w hr0 hr1 hs0 hs1 ht)
  obtain ⟨⟨s, e0⟩, hq⟩ : ∃ q, q = writeF sumF z0 z1 := ⟨_, rfl⟩
  rw [← hq] at HC1
  have HQ := Lib.hid hq.symm
  have HB0 := Lib.hid (Below.refl w.heap.size w)
  have HM0 := Lib.hid hm0
  have HM1 := Lib.hid hm1
  obtain ⟨a1, a2_, rfl⟩ := rd_form hr0
  obtain ⟨b1, b2, rfl⟩ := rd_form hr1
  clear f0 g0 m0 f1 g1 m1 hr0 hs0 hm0 hr1 hs1 hm1 ht hq
  go_enter Tryd.func3, Tryd.ntmps3
  have HC := Lib.hid HC1.out
  clear HC1
  go_wp2_with fail
  (with_reducible refine HC.out.mono ?_)
  rintro e w1 ⟨rfl, hb⟩
  have HB1 := Lib.hid (HB0.out.trans hb)
  clear HC hb
  by_cases he : e0 = 0
  · subst he
    have HSZ := Lib.hid (show s.size ≤ 140737488355328 ∧ 34 ≤ s.size by
      obtain ⟨h1, h2, h3, h4⟩ := writeF_ok sumF HQ.out
      have h5 := write_size sumF sumF_size HQ.out
      have h6 := sizeP_bound h3 z0.length (Nat.le_refl _)
      rw [List.take_length] at h6
      have h7 := packB_size sumF z1 z0
      have h8 : s.size = (packB sumF z1 z0).size + 32 := by rw [h4, ByteArray.size_append, sumF_size]
      omega)
    have HLL := Lib.hid (show z0.length ≤ 400 ∧ z1.length ≤ 400 by obtain ⟨h1, h2, _⟩ := writeF_ok sumF HQ.out; exact ⟨h1, h2⟩)
    have HWS := Lib.hid (write_size sumF sumF_size HQ.out)
    have HCW := Lib.hid (writeF_ok sumF HQ.out).2.2.1
    go_wp2_with (first | (at_builtin; refine wpList_append_rdW (w0 := w) (B := w.heap.size) (by rfl) (.const (.slice none 0 0)) (.tmp 29) 22 rfl info_string Tryd.underlying22 rfl (by decide) (World.ownsRow_nil _ _ _ _) HB1.out (Nat.le_refl _) HB1.out.size (HR2.out _ HB1.out) svs_one' (by have := HM2.out; omega) (by have := HM2.out; unfold maxLen; omega) rfl rfl ?_; intro v2 w2 hoz hbz; rw [Nat.zero_add, List.nil_append] at hoz; have HO2 := Lib.hid hoz; have HB2 := Lib.hid hbz; clear hoz hbz) | (at_builtin; refine wpList_append_rdW (w0 := w) (B := w.heap.size) (by rfl) (.tmp 30) (.tmp 31) 22 rfl info_string Tryd.underlying22 rfl (by decide) HO2.out HB2.out (Nat.le_refl _) HB2.out.size (HR1.out _ HB2.out) svs_one' (by have := HM2.out; have := HLL.out; omega) (by have := HM2.out; have := HLL.out; unfold maxLen; omega) rfl rfl ?_; intro v3 w3 hoz hbz; rw [← svs_append', ← List.length_append] at hoz; have HO3 := Lib.hid hoz; have HB3 := Lib.hid hbz; clear hoz hbz))
    have HRD := Lib.hid (read_any' s (z2 ++ z1) _ w3 HSZ.out.1 (rdS_owns HO3.out) (fun x hx => (List.mem_append.1 hx).elim (HS2.out x) (HS1.out x)) (HT.out _ HB3.out))
    obtain ⟨⟨l, f⟩, hf⟩ : ∃ q, q = readF sumF s (z2 ++ z1) := ⟨_, rfl⟩
    rw [← hf] at HRD
    have HF := Lib.hid hf.symm
    clear hf
    (with_reducible refine HRD.out.mono ?_)
    rintro e w4 ⟨v, rfl, hr, hb⟩
    have HB4 := Lib.hid (HB3.out.trans (hb.mono HB3.out.size))
    have HR4 := Lib.hid (fun wr (h : Below w4.heap.size w4 wr) => hr.below h)
    obtain ⟨m1, m2, rfl⟩ := rd_form hr
    clear hr hb HRD
    go_wp2_with fail
    go_loopw [11, 12] (fun t i wr => ∃ k : Nat, k ≤ z0.length ∧ i = .int .i64 (k : Int) ∧ t = .int .i64 ((sizeP (z0.take k) : Nat) : Int) ∧ Hid (Below w4.heap.size w4 wr)) (fun _ i _ => z0.length - (intOf i).toNat)
    case atStart => exact ⟨0, Nat.zero_le _, rfl, rfl, Lib.hid (Below.refl _ _)⟩
    case round =>
      obtain ⟨k, hk, rfl, rfl, HL4⟩ := hrel
      have HB5 := Lib.hid (HB4.out.trans (HL4.out.mono HB4.out.size))
      by_cases hkl : k < z0.length
      · have HKL := Lib.hid hkl
        have kb : decide ((k : Int) < (z0.length : Int)) = true := decide_eq_true (by omega)
        have ki : (k : Int) < (z0.length : Int) := by omega
        have kz : (0 : Int) ≤ (k : Int) := by omega
        obtain ⟨bl, ol, hbl, _, hcl⟩ := rdS_at' (HR0.out _ HB5.out) (by omega)
        subst hbl
        have e0 := hcl k hkl
        have HSN := Lib.hid (sizeP_step hkl)
        have hx8 : (z0.getD k noB).size ≤ 8192 := decode_size (rowWr_zero HCW.out hkl).1
        have hSb := sizeP_bound HCW.out k hk
        obtain ⟨x, hx⟩ : ∃ x, x = z0.getD k noB := ⟨_, rfl⟩
        rw [← hx] at e0 HSN hx8
        obtain ⟨S, hS⟩ : ∃ S, S = sizeP (z0.take k) := ⟨_, rfl⟩
        rw [← hS] at HSN hSb
        rw [← hS]
        have hS2 : (S : Int) ≤ 4000000 := by have := HLL.out; omega
        have hx9 : (x.size : Int) ≤ 8192 := by omega
        have hk4 : (k : Int) < 400 := by have := HLL.out; omega
        have hK1 : k + 1 ≤ z0.length := hkl
        clear hcl hx hS hkl hSb hx8
        go_wp2_with fail
        exact ⟨⟨k + 1, hK1, rfl, by first | rfl | exact congrArg (Value.int .i64) (by rw [HSN.out]; omega), HL4⟩, meas_step (n := z0.length) _ rfl HKL.out⟩
      · have kb : decide ((k : Int) < (z0.length : Int)) = false := decide_eq_false (by omega)
        have kb2 : decide (k < z0.length) = false := decide_eq_false hkl
        have hT0 : sizeP (z0.take k) = sizeP z0 := by rw [List.take_of_length_le (by omega)]
        rw [hT0]
        have hTb := sizeP_bound HCW.out z0.length (Nat.le_refl _)
        rw [List.take_length] at hTb
        obtain ⟨T, hT⟩ : ∃ T, T = sizeP z0 := ⟨_, rfl⟩
        rw [← hT] at HWS hTb
        rw [← hT]
        have hT2 : (T : Int) ≤ 4000000 := by have := HLL.out; omega
        have hle : decide ((s.size : Int) ≤ (T : Int) + 40) = true := decide_eq_true (by have := HWS.out; omega)
        clear hT0 hT hTb hkl
        by_cases hall : ∀ x ∈ z1, byF sumF (z2 ++ z1) (sumF x) = some x
        · have hrb := read_back sumF sumF_size HQ.out hall
          rw [HF.out] at hrb
          injection hrb with h1 h2
          have h1_ := h1.symm
          subst h1_ h2
          clear hall
          have hsm := same_any z0 z0 _ (.slice a1 z0.length a2_) wr (HR4.out _ HL4.out) (HR0.out _ HB5.out)
          obtain ⟨g, hg⟩ : ∃ g, g = decide (z0 = z0) := ⟨_, rfl⟩
          rw [← hg] at hsm
          have HSM := Lib.hid hsm
          clear hsm
          go_wp2_with fail
          (with_reducible refine HSM.out.mono ?_)
          rintro e w6 ⟨rfl, hb⟩
          have HB6 := Lib.hid (HB5.out.trans (hb.mono HB5.out.size))
          clear hb HSM
          obtain rfl : g = true := by rw [hg]; simp
          clear hg
          have HC := Lib.hid (packs_any w6 (HT.out _ HB6.out))
          go_wp2_with fail
          (with_reducible refine HC.out.mono ?_)
          rintro e w6_ ⟨rfl, hb⟩
          have HB6_ := Lib.hid (HB6.out.trans (hb.mono HB6.out.size))
          clear HC hb
          go_wp2_with fail
          go_ret
          exact ⟨rfl, HB6_.out⟩
        · have HTWN := Lib.hid (show Tw (z0 ++ z1 ++ z2) from by
            obtain ⟨x, hx, hn⟩ : ∃ x ∈ z1, byF sumF (z2 ++ z1) (sumF x) ≠ some x := by
              apply Classical.byContradiction
              intro hc
              exact hall fun x hx => Classical.byContradiction fun h => hc ⟨x, hx, h⟩
            exact byF_twin (out := z2 ++ z1) (by simp [hx]) hn (fun s hs => by simp only [List.mem_append] at hs ⊢; rcases hs with h | h; exact .inr h; exact .inl (.inr h)))
          clear hall
          by_cases hf : f = 0
          · subst hf
            have hsm := same_any l z0 _ (.slice a1 z0.length a2_) wr (HR4.out _ HL4.out) (HR0.out _ HB5.out)
            obtain ⟨g, hg⟩ : ∃ g, g = decide (l = z0) := ⟨_, rfl⟩
            rw [← hg] at hsm
            have HSM := Lib.hid hsm
            clear hsm
            go_wp2_with fail
            (with_reducible refine HSM.out.mono ?_)
            rintro e w6 ⟨rfl, hb⟩
            have HB6 := Lib.hid (HB5.out.trans (hb.mono HB5.out.size))
            clear hb HSM
            clear hg
            cases g with
            | true =>
              have HC := Lib.hid (packs_any w6 (HT.out _ HB6.out))
              go_wp2_with fail
              (with_reducible refine HC.out.mono ?_)
              rintro e w6_ ⟨rfl, hb⟩
              have HB6_ := Lib.hid (HB6.out.trans (hb.mono HB6.out.size))
              clear HC hb
              go_wp2_with fail
              go_ret
              exact ⟨rfl, HB6_.out⟩
            | false =>
              go_wp2_with (first | (at_builtin; refine wpList_append_rdW (w0 := w) (B := w.heap.size) (by rfl) (.const (.slice none 0 0)) (.tmp 59) 22 rfl info_string Tryd.underlying22 rfl (by decide) (World.ownsRow_nil _ _ _ _) HB6.out (Nat.le_refl _) HB6.out.size (HR0.out _ HB6.out) svs_one' (by have := HM2.out; have := HLL.out; omega) (by have := HM2.out; have := HLL.out; unfold maxLen; omega) rfl rfl ?_; intro v7 w7 hoz hbz; rw [Nat.zero_add, List.nil_append] at hoz; have HO7 := Lib.hid hoz; have HB7 := Lib.hid hbz; clear hoz hbz) | (at_builtin; refine wpList_append_rdW (w0 := w) (B := w.heap.size) (by rfl) (.tmp 60) (.tmp 61) 22 rfl info_string Tryd.underlying22 rfl (by decide) HO7.out HB7.out (Nat.le_refl _) HB7.out.size (HR1.out _ HB7.out) svs_one' (by have := HM2.out; have := HLL.out; omega) (by have := HM2.out; have := HLL.out; unfold maxLen; omega) rfl rfl ?_; intro v8 w8 hoz hbz; rw [← svs_append', ← List.length_append] at hoz; have HO8 := Lib.hid hoz; have HB8 := Lib.hid hbz; clear hoz hbz) | (at_builtin; refine wpList_append_rdW (w0 := w) (B := w.heap.size) (by rfl) (.tmp 62) (.tmp 63) 22 rfl info_string Tryd.underlying22 rfl (by decide) HO8.out HB8.out (Nat.le_refl _) HB8.out.size (HR2.out _ HB8.out) svs_one' (by have := HM2.out; have := HLL.out; simp only [List.length_append]; omega) (by have := HM2.out; have := HLL.out; unfold maxLen; simp only [List.length_append]; omega) rfl rfl ?_; intro v9 w9 hoz hbz; rw [← svs_append', ← List.length_append] at hoz; have HO9 := Lib.hid hoz; have HB9 := Lib.hid hbz; clear hoz hbz))
              have HTW := Lib.hid (twins_any _ _ w9 (rdS_owns HO9.out) (HT.out _ HB9.out))
              (with_reducible refine HTW.out.mono ?_)
              rintro e wa ⟨⟨r, rfl, hr⟩, hb⟩
              obtain rfl : r = true := hr.2 HTWN.out
              have HBa := Lib.hid (HB9.out.trans (hb.mono HB9.out.size))
              clear hr hb HTW
              have HC := Lib.hid (packs_any wa (HT.out _ HBa.out))
              go_wp2_with fail
              (with_reducible refine HC.out.mono ?_)
              rintro e wa_ ⟨rfl, hb⟩
              have HBa_ := Lib.hid (HBa.out.trans (hb.mono HBa.out.size))
              clear HC hb
              go_wp2_with fail
              go_ret
              exact ⟨rfl, HBa_.out⟩
          · have n1 : (f == 0) = false := beq_eq_false_iff_ne.2 hf
            have n2 : (f != 0) = true := by rw [bne, n1]; rfl
            clear hf
            go_wp2_with (first | (at_builtin; refine wpList_append_rdW (w0 := w) (B := w.heap.size) (by rfl) (.const (.slice none 0 0)) (.tmp 59) 22 rfl info_string Tryd.underlying22 rfl (by decide) (World.ownsRow_nil _ _ _ _) HB5.out (Nat.le_refl _) HB5.out.size (HR0.out _ HB5.out) svs_one' (by have := HM2.out; have := HLL.out; omega) (by have := HM2.out; have := HLL.out; unfold maxLen; omega) rfl rfl ?_; intro v7 w7 hoz hbz; rw [Nat.zero_add, List.nil_append] at hoz; have HO7 := Lib.hid hoz; have HB7 := Lib.hid hbz; clear hoz hbz) | (at_builtin; refine wpList_append_rdW (w0 := w) (B := w.heap.size) (by rfl) (.tmp 60) (.tmp 61) 22 rfl info_string Tryd.underlying22 rfl (by decide) HO7.out HB7.out (Nat.le_refl _) HB7.out.size (HR1.out _ HB7.out) svs_one' (by have := HM2.out; have := HLL.out; omega) (by have := HM2.out; have := HLL.out; unfold maxLen; omega) rfl rfl ?_; intro v8 w8 hoz hbz; rw [← svs_append', ← List.length_append] at hoz; have HO8 := Lib.hid hoz; have HB8 := Lib.hid hbz; clear hoz hbz) | (at_builtin; refine wpList_append_rdW (w0 := w) (B := w.heap.size) (by rfl) (.tmp 62) (.tmp 63) 22 rfl info_string Tryd.underlying22 rfl (by decide) HO8.out HB8.out (Nat.le_refl _) HB8.out.size (HR2.out _ HB8.out) svs_one' (by have := HM2.out; have := HLL.out; simp only [List.length_append]; omega) (by have := HM2.out; have := HLL.out; unfold maxLen; simp only [List.length_append]; omega) rfl rfl ?_; intro v9 w9 hoz hbz; rw [← svs_append', ← List.length_append] at hoz; have HO9 := Lib.hid hoz; have HB9 := Lib.hid hbz; clear hoz hbz))
            have HTW := Lib.hid (twins_any _ _ w9 (rdS_owns HO9.out) (HT.out _ HB9.out))
            (with_reducible refine HTW.out.mono ?_)
            rintro e wa ⟨⟨r, rfl, hr⟩, hb⟩
            obtain rfl : r = true := hr.2 HTWN.out
            have HBa := Lib.hid (HB9.out.trans (hb.mono HB9.out.size))
            clear hr hb HTW
            have HC := Lib.hid (packs_any wa (HT.out _ HBa.out))
            go_wp2_with fail
            (with_reducible refine HC.out.mono ?_)
            rintro e wa_ ⟨rfl, hb⟩
            have HBa_ := Lib.hid (HBa.out.trans (hb.mono HBa.out.size))
            clear HC hb
            go_wp2_with fail
            go_ret
            exact ⟨rfl, HBa_.out⟩
  · have n1 : (e0 == 0) = false := beq_eq_false_iff_ne.2 he
    have n2 : (e0 != 0) = true := by rw [bne, n1]; rfl
    have hb := writeF_bad sumF (l := z0) (out := z1) (by rw [HQ.out]; exact he)
    rw [HQ.out] at hb
    dsimp only at hb
    subst hb
    have hoo : (noB : ByteArray).toList.isEmpty = true := by rw [ByteArray.toList_eq]; rfl
    clear he
    have HC := Lib.hid (packs_any w1 (HT.out _ HB1.out))
    go_wp2_with fail
    (with_reducible refine HC.out.mono ?_)
    rintro e w2 ⟨rfl, hb⟩
    have HB2 := Lib.hid (HB1.out.trans (hb.mono HB1.out.size))
    clear HC hb
    go_wp2_with fail
    go_ret
    exact ⟨rfl, HB2.out⟩
end Go.Proofs.YtalkheljejkpiaaDoor
