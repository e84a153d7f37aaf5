/- HeadBack: heads and their texts are turned into each other. -/
import Derived.Test.YtinhjnbgblieeaaDoorHead3
namespace Go.Proofs.YtinhjnbgblieeaaDoor
open Go.RowKit
set_option linter.unusedVariables false
set_option linter.unusedSimpArgs false

set_option maxRecDepth 100000 in
set_option maxHeartbeats 3200000 in
theorem headBack_walk {w : World} (ht : Tab w) (n : Int) (r : ByteArray) (b : ByteArray) (fb : b.size ≤ 140737488351232) :
    Calls Tryd.prog 7 #[.agg #[.int .i64 n, .string r], .string b] w fun e w' => e = .returned (.bool true) ∧ Below w.heap.size w w' := by
  have HT := Lib.hid ht
  have HBS := Lib.hid fb
  obtain ⟨W, hW⟩ : ∃ W, w.alloc (.cells #[.int .i64 n, .string r] 41) = W := ⟨_, rfl⟩
  have hg0 : W.heap[w.heap.size]? = some (.cells #[.int .i64 n, .string r] 41 (0, 0)) := by rw [← hW]; exact heap_alloc_new _ _
  have hb1 : Below w.heap.size w W := by rw [← hW]; exact (Below.refl _ _).alloc (Nat.le_refl _) _
  have HW0 := Lib.hid hb1
  have HG := Lib.hid (fun wr (h : Below W.heap.size W wr) => blk_below hg0 h)
  have HB0 := Lib.hid (Below.refl W.heap.size W)
  have htx := textHead_any n r W
  obtain ⟨⟨a, e0⟩, hq⟩ : ∃ q, q = textF n r := ⟨_, rfl⟩
  rw [← hq] at htx
  have HA := Lib.hid hq
  obtain ⟨c0, c1, _, _⟩ := head_cells hg0
  clear hg0 hb1 ht fb hq
  go_enter Tryd.func7, Tryd.ntmps7
  go_wp2_with fail
  (with_reducible refine (htx).mono ?_)
  rintro e w1 ⟨rfl, hb⟩
  have HB1 := Lib.hid (HB0.out.trans (hb.mono HB0.out.size))
  have HL1 := Lib.hid hb
  clear hb
  clear htx hW c0 c1
  by_cases hz : e0 = 0
  · subst hz
    have hg := textF_inv (n := n) (r := r) (by rw [← HA.out])
    obtain rfl : a = headB n r := by have := HA.out; rw [textF_ok hg] at this; exact congrArg Prod.fst this
    have HR1 := Lib.hid (read_text hg)
    have HR2 := Lib.hid (read_more 120 hg)
    have HSZ := Lib.hid (headB_size hg)
    obtain ⟨T, hT⟩ : ∃ T, T = headB n r := ⟨_, rfl⟩
    rw [← hT] at HR1 HR2 HSZ ⊢
    have hts : T.size ≤ 41 := HSZ.out
    clear hg hT HA
    have hr1 := readHead_any T w1 (by have := HSZ.out; omega) (by have := HSZ.out; omega)
    rw [HR1.out] at hr1
    go_wp2_with fail
    (with_reducible refine (hr1).mono ?_)
    rintro e w2 ⟨rfl, hb⟩
    have HB2 := Lib.hid (HB1.out.trans (hb.mono HB1.out.size))
    have HL2 := Lib.hid hb
    clear hb
    have HB3 := Lib.hid (HB2.out.alloc HB2.out.size (.cells #[.int .i64 n, .string r] 41))
    have HX3 := Lib.hid (heap_alloc_new w2 (.cells #[.int .i64 n, .string r] 41))
    have hr2 := readHead_any (T ++ ⟨#[120]⟩) (w2.alloc (.cells #[.int .i64 n, .string r] 41)) (by rw [ByteArray.size_append]; have := HSZ.out; have e : (⟨#[120]⟩ : ByteArray).size = 1 := rfl; omega) (by rw [ByteArray.size_append]; have := HSZ.out; have e : (⟨#[120]⟩ : ByteArray).size = 1 := rfl; omega)
    rw [HR2.out] at hr2
    clear hr1
    go_wp2_with fail
    (with_reducible refine (hr2).mono ?_)
    rintro e w4 ⟨rfl, hb⟩
    have HB4 := Lib.hid (HB3.out.trans (hb.mono HB3.out.size))
    have HL4 := Lib.hid hb
    clear hb
    have rr : (r.toList == r.toList) = true := beq_self_eq_true _
    obtain ⟨w4a, hw4a⟩ : ∃ x, w4.alloc (.cells #[.int .i64 0, .string noB] 41) = x := ⟨_, rfl⟩
    have hba : Below w4.heap.size w4 w4a := by rw [← hw4a]; exact (Below.refl _ _).alloc (Nat.le_refl _) _
    have HB4a := Lib.hid (HB4.out.trans (hba.mono HB4.out.size))
    obtain ⟨x0, x1, _, _⟩ := head_cells (blk_below (blk_below HX3.out HL4.out) hba)
    obtain ⟨c0, c1, _, _⟩ := head_cells (HG.out _ HB4a.out)
    clear hr2 hba
    have hrd := readHead_any b w4a (by have := HBS.out; omega) (by have := HBS.out; omega)
    obtain ⟨⟨⟨m, t⟩, f⟩, hq⟩ : ∃ q, q = hreadF b := ⟨_, rfl⟩
    rw [← hq] at hrd
    have HQ := Lib.hid hq
    clear hq
    go_wp2_with fail
    (with_reducible refine (hrd).mono ?_)
    rintro e w5 ⟨rfl, hb⟩
    have HB5 := Lib.hid (HB4a.out.trans (hb.mono HB4a.out.size))
    have HL5 := Lib.hid hb
    clear hb
    clear hrd x0 x1 c0 c1 hw4a
    by_cases hf : f = 0
    · subst hf
      have hinv := read_inv (b := b) (by rw [← HQ.out])
      rw [← HQ.out] at hinv
      have HTX := Lib.hid (show textF m t = (b, 0) by rw [textF_ok hinv.1, hinv.2])
      have bb : (b.toList == b.toList) = true := beq_self_eq_true _
      clear hinv
      have HB6 := Lib.hid (HB5.out.alloc HB5.out.size (.cells #[.int .i64 m, .string t] 41))
      have htx := textHead_any m t (w5.alloc (.cells #[.int .i64 m, .string t] 41))
      rw [HTX.out] at htx
      go_wp2_with fail
      (with_reducible refine (htx).mono ?_)
      rintro e w7 ⟨rfl, hb⟩
      have HB7 := Lib.hid (HB6.out.trans (hb.mono HB6.out.size))
      have HL7 := Lib.hid hb
      clear hb
      clear htx
      go_wp2_with fail
      (with_reducible refine (heads_any _ (HT.out.below (HW0.out.trans (HB7.out.mono HW0.out.size)))).mono ?_)
      rintro e w9 ⟨rfl, hb⟩
      have HB9 := Lib.hid (HB7.out.trans (hb.mono HB7.out.size))
      clear hb
      go_wp2_with fail
      go_ret
      exact ⟨rfl, HW0.out.trans (HB9.out.mono HW0.out.size)⟩
    · have n1 : (f == 0) = false := beq_eq_false_iff_ne.2 hf
      have n2 : (f != 0) = true := by rw [bne, n1]; rfl
      have hbd := read_bad (b := b) (by rw [← HQ.out]; exact hf)
      rw [← HQ.out] at hbd
      simp only [Prod.mk.injEq] at hbd
      obtain ⟨rfl, rfl⟩ := hbd
      have zz : (noB.toList == (⟨#[]⟩ : ByteArray).toList) = true := by rw [show noB = ⟨#[]⟩ from rfl]; exact beq_self_eq_true _
      have zz2 : noB.toList.isEmpty = true := by rw [ByteArray.toList_eq]; rfl
      clear hf
      have HB6 := Lib.hid (HB5.out.alloc HB5.out.size (.cells #[.int .i64 0, .string noB] 41))
      go_wp2_with fail
      (with_reducible refine (heads_any _ (HT.out.below (HW0.out.trans (HB6.out.mono HW0.out.size)))).mono ?_)
      rintro e w9 ⟨rfl, hb⟩
      have HB9 := Lib.hid (HB6.out.trans (hb.mono HB6.out.size))
      clear hb
      go_wp2_with fail
      go_ret
      exact ⟨rfl, HW0.out.trans (HB9.out.mono HW0.out.size)⟩
  · have n1 : (e0 == 0) = false := beq_eq_false_iff_ne.2 hz
    have n2 : (e0 != 0) = true := by rw [bne, n1]; rfl
    clear hz
    have hrd := readHead_any b w1 (by have := HBS.out; omega) (by have := HBS.out; omega)
    obtain ⟨⟨⟨m, t⟩, f⟩, hq⟩ : ∃ q, q = hreadF b := ⟨_, rfl⟩
    rw [← hq] at hrd
    have HQ := Lib.hid hq
    clear hq
    go_wp2_with fail
    (with_reducible refine (hrd).mono ?_)
    rintro e w5 ⟨rfl, hb⟩
    have HB5 := Lib.hid (HB1.out.trans (hb.mono HB1.out.size))
    have HL5 := Lib.hid hb
    clear hb
    clear hrd
    by_cases hf : f = 0
    · subst hf
      have hinv := read_inv (b := b) (by rw [← HQ.out])
      rw [← HQ.out] at hinv
      have HTX := Lib.hid (show textF m t = (b, 0) by rw [textF_ok hinv.1, hinv.2])
      have bb : (b.toList == b.toList) = true := beq_self_eq_true _
      clear hinv
      have HB6 := Lib.hid (HB5.out.alloc HB5.out.size (.cells #[.int .i64 m, .string t] 41))
      have htx := textHead_any m t (w5.alloc (.cells #[.int .i64 m, .string t] 41))
      rw [HTX.out] at htx
      go_wp2_with fail
      (with_reducible refine (htx).mono ?_)
      rintro e w7 ⟨rfl, hb⟩
      have HB7 := Lib.hid (HB6.out.trans (hb.mono HB6.out.size))
      have HL7 := Lib.hid hb
      clear hb
      clear htx
      go_wp2_with fail
      (with_reducible refine (heads_any _ (HT.out.below (HW0.out.trans (HB7.out.mono HW0.out.size)))).mono ?_)
      rintro e w9 ⟨rfl, hb⟩
      have HB9 := Lib.hid (HB7.out.trans (hb.mono HB7.out.size))
      clear hb
      go_wp2_with fail
      go_ret
      exact ⟨rfl, HW0.out.trans (HB9.out.mono HW0.out.size)⟩
    · have n1 : (f == 0) = false := beq_eq_false_iff_ne.2 hf
      have n2 : (f != 0) = true := by rw [bne, n1]; rfl
      have hbd := read_bad (b := b) (by rw [← HQ.out]; exact hf)
      rw [← HQ.out] at hbd
      simp only [Prod.mk.injEq] at hbd
      obtain ⟨rfl, rfl⟩ := hbd
      have zz : (noB.toList == (⟨#[]⟩ : ByteArray).toList) = true := by rw [show noB = ⟨#[]⟩ from rfl]; exact beq_self_eq_true _
      have zz2 : noB.toList.isEmpty = true := by rw [ByteArray.toList_eq]; rfl
      clear hf
      have HB6 := Lib.hid (HB5.out.alloc HB5.out.size (.cells #[.int .i64 0, .string noB] 41))
      go_wp2_with fail
      (with_reducible refine (heads_any _ (HT.out.below (HW0.out.trans (HB6.out.mono HW0.out.size)))).mono ?_)
      rintro e w9 ⟨rfl, hb⟩
      have HB9 := Lib.hid (HB6.out.trans (hb.mono HB6.out.size))
      clear hb
      go_wp2_with fail
      go_ret
      exact ⟨rfl, HW0.out.trans (HB9.out.mono HW0.out.size)⟩
end Go.Proofs.YtinhjnbgblieeaaDoor
