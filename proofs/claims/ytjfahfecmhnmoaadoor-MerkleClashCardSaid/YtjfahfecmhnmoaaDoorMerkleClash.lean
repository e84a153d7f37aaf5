/- The walk of MerkleClash. -/
import Derived.Test.YtjfahfecmhnmoaaDoorMerklePaths
import Derived.Test.YtjfahfecmhnmoaaDoorMerkle7
namespace Go.Proofs.YtjfahfecmhnmoaaDoor
open Go.RowKit
set_option linter.unusedVariables false
set_option linter.unusedSimpArgs false

set_option maxRecDepth 100000 in
set_option maxHeartbeats 3200000 in
theorem merkleClash_walk {w : World} (ht : Tab w) (v0 : Value) (len0 : Nat) (z0 : List ByteArray) (f0 : rdRow w 1 v0 len0 (z0.map .string)) (g0 : ∀ s ∈ z0, s.size ≤ 140737488351232) (m0 : len0 * 16 ≤ 140737488351232) (v1 : Value) (len1 : Nat) (z1 : List ByteArray) (f1 : rdRow w 1 v1 len1 (z1.map .string)) (g1 : ∀ s ∈ z1, s.size ≤ 140737488351232) (m1 : len1 * 16 ≤ 140737488351232) :
    Calls Tryd.prog 3 #[v0, v1] w fun e w' => e = .returned (.bool true) ∧ Below w.heap.size w w' := by
  obtain ⟨hr, hs, hm⟩ := rdS_in f0 g0 m0
  have HF := Lib.hid (few_any z0 v0 w hr)
  obtain ⟨la, hla⟩ : ∃ la, la = z0.take 130 := ⟨_, rfl⟩
  have hl130 : la.length ≤ 130 := by rw [hla, List.length_take]; omega
  have hsm : smalls la := by rw [hla]; exact smalls_take hs 130
  rw [← hla] at HF
  have HT := Lib.hid ht
  have HS := Lib.hid hsm
  obtain ⟨hr', hs', hm'⟩ := rdS_in f1 g1 m1
  obtain ⟨lb, hlb⟩ : ∃ lb, lb = z1.take 130 := ⟨_, rfl⟩
  have hb130 : lb.length ≤ 130 := by rw [hlb, List.length_take]; omega
  have hsm' : smalls lb := by rw [hlb]; exact smalls_take hs' 130
  have HS2 := Lib.hid hsm'
  have HF2 := Lib.hid (fun w' (hb : Below w.heap.size w w') => few_any z1 v1 w' (hr'.below hb))
  rw [← hlb] at HF2
  clear ht hr hs hm f0 g0 m0 hla hsm f1 g1 m1 hm' hs' hr' hlb hsm'
  go_enter Tryd.func3, Tryd.ntmps3
  go_wp2_with fail
  (with_reducible refine HF.out.mono ?_)
  rintro e w1 ⟨va, rfl, hown, hb⟩
  have HW1 := Lib.hid hb
  have HO1 := Lib.hid hown
  clear hown hb
  go_wp2_with fail
  (with_reducible refine (HF2.out _ HW1.out).mono ?_)
  rintro e w2 ⟨vb, rfl, hown, hb⟩
  have HW2 := Lib.hid (HW1.out.trans (hb.mono HW1.out.size))
  have hra := rdS_owns (owns_below HO1.out hb)
  have hrb := rdS_owns hown
  have HRA := Lib.hid hra
  have HRB := Lib.hid hrb
  have HT2 := Lib.hid (HT.out.below HW2.out)
  have HB2 := Lib.hid (Below.refl w2.heap.size w2)
  clear hown hb HO1 HF HF2
  obtain ⟨ao, acap, rfl⟩ := rdS_form hra
  obtain ⟨bo, bcap, rfl⟩ := rdS_form hrb
  clear hra hrb
  have hla2 : la.length * 16 ≤ 4096 := by omega
  have hlb2 : lb.length * 16 ≤ 4096 := by omega
  have HCL := Lib.hid (fun pa pb w' (hb : Below w2.heap.size w2 w') (ha : rdS w' pa la) (hb2 : rdS w' pb lb) => clash2_any 130 la lb pa pb w' hl130 (Nat.le_refl _) ha hb2 HS.out HS2.out (HT2.out.below hb))
  have HSA := Lib.hid (fun w' (hb : Below w2.heap.size w2 w') => same_any la lb _ _ w' (HRA.out.below hb) (HRB.out.below hb))
  have HROA := Lib.hid (fun w' (hb : Below w2.heap.size w2 w') => root_any 130 la _ w' hl130 (by omega) (HRA.out.below hb) HS.out (HT2.out.below hb))
  have HROB := Lib.hid (fun w' (hb : Below w2.heap.size w2 w') => root_any 130 lb _ w' hb130 (by omega) (HRB.out.below hb) HS2.out (HT2.out.below hb))
  have HLAW := Lib.hid (fun (h1 : la.length = lb.length) (h2 : rootF la = rootF lb) => clash_law la.length la lb rfl h1 h2)
  obtain ⟨c, hc⟩ : ∃ c, c = clashF la lb := ⟨_, rfl⟩
  have HCB := Lib.hid (fun (h : ¬ (la.length = lb.length ∧ la ≠ [] ∧ rootF la = rootF lb)) => hc.trans (clashF_bad h))
  rw [← hc] at HCL HLAW
  clear hc
  obtain ⟨x, y⟩ := c
  obtain ⟨ra, hra⟩ : ∃ r, r = rootF la := ⟨_, rfl⟩
  obtain ⟨rb, hrb⟩ : ∃ r, r = rootF lb := ⟨_, rfl⟩
  rw [← hra] at HROA
  rw [← hrb] at HROB
  have HR := Lib.hid (And.intro hra hrb)
  clear hra hrb
  go_wp2_with (first | (at_builtin; refine wpList_append_rd (w0 := w2) (B := w2.heap.size) rfl _ (.tmp 12) 22 rfl info_string Tryd.underlying22 rfl (by decide) (by decide) (World.ownsRow_nil w2 w2.heap.size 9 1) (Below.refl _ _) (Nat.le_refl _) (Nat.le_refl _) HRA.out (svs_one _) (by omega) rfl rfl ?_; intro pa w3 hown' hB'; have HL3 := Lib.hid hB'; have HB3 := Lib.hid (hB'); have HO3 := Lib.hid (show World.ownsRow w3 w2.heap.size 9 1 _ _ _ by simpa using hown'); clear hB' hown') | (at_builtin; refine wpList_append_rd (w0 := w3) (B := w3.heap.size) rfl _ (.tmp 14) 22 rfl info_string Tryd.underlying22 rfl (by decide) (by decide) (World.ownsRow_nil w3 w3.heap.size 9 1) (Below.refl _ _) (Nat.le_refl _) (Nat.le_refl _) (HRB.out.below HB3.out) (svs_one _) (by omega) rfl rfl ?_; intro pb w4 hown' hB'; have HL4 := Lib.hid hB'; have HB4 := Lib.hid (HB3.out.trans (hB'.mono HB3.out.size)); have HO4 := Lib.hid (show World.ownsRow w4 w3.heap.size 9 1 _ _ _ by simpa using hown'); clear hB' hown'))
  have hpa : rdS w4 pa la := (rdS_owns HO3.out).below HL4.out
  have hpb : rdS w4 pb lb := rdS_owns HO4.out
  (with_reducible refine (HCL.out _ _ _ HB4.out hpa hpb).mono ?_)
  rintro e w5 ⟨rfl, hb⟩
  have HB5 := Lib.hid (HB4.out.trans (hb.mono HB4.out.size))
  clear hb hpa hpb HO3 HO4 HL3 HL4 HCL
  by_cases hl : la.length = lb.length
  · have hle : ((la.length : Int) == (lb.length : Int)) = true := by simp; omega
    have HLL := Lib.hid hl
    clear hl
    by_cases he : la = lb
    · have HE := Lib.hid ((HLAW.out HLL.out (by rw [he])).1 he)
      have hdd : decide (la = lb) = true := decide_eq_true he
      clear he
      go_wp2_with fail
      (with_reducible refine (HSA.out _ HB5.out).mono ?_)
      rintro e w6 ⟨rfl, hb⟩
      have HB6 := Lib.hid (HB5.out.trans (hb.mono HB5.out.size))
      have HL6 := Lib.hid hb
      clear hb
      rw [hdd]
      obtain ⟨hx, hy⟩ : x = ⟨#[]⟩ ∧ y = ⟨#[]⟩ := Prod.mk.inj HE.out
      have ho1 : x.toList.isEmpty = true := by rw [hx, ByteArray.toList_eq]; rfl
      have ho2 : y.toList.isEmpty = true := by rw [hy, ByteArray.toList_eq]; rfl
      clear hx hy
      go_wp2_with fail
      (with_reducible refine (roots_any _ (HT2.out.below HB6.out)).mono ?_)
      rintro e w7 ⟨rfl, hb⟩
      have HB7 := Lib.hid (HB6.out.trans (hb.mono HB6.out.size))
      have HL7 := Lib.hid hb
      clear hb
      go_wp2_with fail
      go_ret
      exact ⟨rfl, HW2.out.trans (HB7.out.mono HW2.out.size)⟩
    · by_cases hrr : rootF la = rootF lb
      · have HE := Lib.hid ((HLAW.out HLL.out hrr).2 he)
        have hdd : decide (la = lb) = false := decide_eq_false he
        have hrr2 : (ra.toList == rb.toList) = true := by rw [HR.out.1, HR.out.2, hrr]; exact beq_yes _
        have hcl : clashB x y = true := clashB_iff.2 HE.out
        clear he hrr
        go_wp2_with fail
        (with_reducible refine (HSA.out _ HB5.out).mono ?_)
        rintro e w6 ⟨rfl, hb⟩
        have HB6 := Lib.hid (HB5.out.trans (hb.mono HB5.out.size))
        have HL6 := Lib.hid hb
        clear hb
        rw [hdd]
        go_wp2_with fail
        (with_reducible refine (HROA.out _ HB6.out).mono ?_)
        rintro e w7 ⟨rfl, hb⟩
        have HB7 := Lib.hid (HB6.out.trans (hb.mono HB6.out.size))
        have HL7 := Lib.hid hb
        clear hb
        go_wp2_with fail
        (with_reducible refine (HROB.out _ HB7.out).mono ?_)
        rintro e w8 ⟨rfl, hb⟩
        have HB8 := Lib.hid (HB7.out.trans (hb.mono HB7.out.size))
        have HL8 := Lib.hid hb
        clear hb
        go_wp2_with fail
        (with_reducible refine (clash_any x y _ (HT2.out.below HB8.out)).mono ?_)
        rintro e w9 ⟨rfl, hb⟩
        rw [hcl]
        have HB9 := Lib.hid (HB8.out.trans (hb.mono HB8.out.size))
        have HL9 := Lib.hid hb
        clear hb
        go_wp2_with fail
        (with_reducible refine (roots_any _ (HT2.out.below HB9.out)).mono ?_)
        rintro e w10 ⟨rfl, hb⟩
        have HB10 := Lib.hid (HB9.out.trans (hb.mono HB9.out.size))
        have HL10 := Lib.hid hb
        clear hb
        go_wp2_with fail
        go_ret
        exact ⟨rfl, HW2.out.trans (HB10.out.mono HW2.out.size)⟩
      · have HE := Lib.hid (HCB.out (fun h => hrr h.2.2))
        have hdd : decide (la = lb) = false := decide_eq_false he
        have hrr2 : (ra.toList == rb.toList) = false := beq_no (by rw [HR.out.1, HR.out.2]; exact hrr)
        clear he hrr
        go_wp2_with fail
        (with_reducible refine (HSA.out _ HB5.out).mono ?_)
        rintro e w6 ⟨rfl, hb⟩
        have HB6 := Lib.hid (HB5.out.trans (hb.mono HB5.out.size))
        have HL6 := Lib.hid hb
        clear hb
        rw [hdd]
        go_wp2_with fail
        (with_reducible refine (HROA.out _ HB6.out).mono ?_)
        rintro e w7 ⟨rfl, hb⟩
        have HB7 := Lib.hid (HB6.out.trans (hb.mono HB6.out.size))
        have HL7 := Lib.hid hb
        clear hb
        go_wp2_with fail
        (with_reducible refine (HROB.out _ HB7.out).mono ?_)
        rintro e w8 ⟨rfl, hb⟩
        have HB8 := Lib.hid (HB7.out.trans (hb.mono HB7.out.size))
        have HL8 := Lib.hid hb
        clear hb
        obtain ⟨hx, hy⟩ : x = ⟨#[]⟩ ∧ y = ⟨#[]⟩ := Prod.mk.inj HE.out
        have ho1 : x.toList.isEmpty = true := by rw [hx, ByteArray.toList_eq]; rfl
        have ho2 : y.toList.isEmpty = true := by rw [hy, ByteArray.toList_eq]; rfl
        clear hx hy
        go_wp2_with fail
        (with_reducible refine (roots_any _ (HT2.out.below HB8.out)).mono ?_)
        rintro e w9 ⟨rfl, hb⟩
        have HB9 := Lib.hid (HB8.out.trans (hb.mono HB8.out.size))
        have HL9 := Lib.hid hb
        clear hb
        go_wp2_with fail
        go_ret
        exact ⟨rfl, HW2.out.trans (HB9.out.mono HW2.out.size)⟩
  · have hne : ((la.length : Int) == (lb.length : Int)) = false := by simp; omega
    have HE := Lib.hid (HCB.out (fun h => hl h.1))
    clear hl
    obtain ⟨hx, hy⟩ : x = ⟨#[]⟩ ∧ y = ⟨#[]⟩ := Prod.mk.inj HE.out
    have ho1 : x.toList.isEmpty = true := by rw [hx, ByteArray.toList_eq]; rfl
    have ho2 : y.toList.isEmpty = true := by rw [hy, ByteArray.toList_eq]; rfl
    clear hx hy
    go_wp2_with fail
    (with_reducible refine (roots_any _ (HT2.out.below HB5.out)).mono ?_)
    rintro e w6 ⟨rfl, hb⟩
    have HB6 := Lib.hid (HB5.out.trans (hb.mono HB5.out.size))
    have HL6 := Lib.hid hb
    clear hb
    go_wp2_with fail
    go_ret
    exact ⟨rfl, HW2.out.trans (HB6.out.mono HW2.out.size)⟩
end Go.Proofs.YtjfahfecmhnmoaaDoor
