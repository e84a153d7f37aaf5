/- StepBack: what is encoded is decoded, and not with something behind it. -/
import Derived.Test.YtinhjnbgblieeaaDoorStep6
import Derived.Test.YtinhjnbgblieeaaDoorStep8
namespace Go.Proofs.YtinhjnbgblieeaaDoor
open Go.RowKit
set_option linter.unusedVariables false
set_option linter.unusedSimpArgs false

set_option maxRecDepth 100000 in
set_option maxHeartbeats 3200000 in
theorem stepBack_walk {w : World} (ht : Tab w) (s : Stp) (vw vs : Value) (hw : rdI w vw s.who) (hs : rdS w vs s.seals) :
    Calls Tryd.prog 8 #[.agg #[.string s.ref, .string s.old, .string s.new, vw, vs]] w fun e w' => e = .returned (.bool true) ∧ Below w.heap.size w w' := by
  obtain ⟨ae1, ae2, rfl⟩ := rd_form hw
  obtain ⟨ae3, ae4, rfl⟩ := rd_form hs
  have HT := Lib.hid ht
  obtain ⟨W, hW⟩ : ∃ W, w.alloc (.cells #[.string s.ref, .string s.old, .string s.new, .slice ae1 s.who.length ae2, .slice ae3 s.seals.length ae4] 25) = W := ⟨_, rfl⟩
  have hg0 : W.heap[w.heap.size]? = some (.cells #[.string s.ref, .string s.old, .string s.new, .slice ae1 s.who.length ae2, .slice ae3 s.seals.length ae4] 25 (0, 0)) := by rw [← hW]; exact heap_alloc_new _ _
  have hb1 : Below w.heap.size w W := by rw [← hW]; exact (Below.refl _ _).alloc (Nat.le_refl _) _
  have HW0 := Lib.hid hb1
  have HG := Lib.hid (fun wr (h : Below W.heap.size W wr) => blk_below hg0 h)
  have HRW := Lib.hid (fun wr (h : Below W.heap.size W wr) => (hw.below hb1).below h)
  have HRS := Lib.hid (fun wr (h : Below W.heap.size W wr) => (hs.below hb1).below h)
  have HB0 := Lib.hid (Below.refl W.heap.size W)
  obtain ⟨c0, c1, c2, c3, c4, _, _⟩ := stp_cells hg0
  have hen := encodeStp_any s _ _ W (HRW.out _ HB0.out) (HRS.out _ HB0.out)
  obtain ⟨⟨a, e0⟩, hae⟩ : ∃ q, q = encodeSF s := ⟨_, rfl⟩
  rw [← hae] at hen
  have HA := Lib.hid hae
  clear hg0 hb1 hw hs ht hae
  go_enter Tryd.func8, Tryd.ntmps8
  go_wp2_with fail
  (with_reducible refine (hen).mono ?_)
  rintro e w1 ⟨rfl, hb⟩
  have HB1 := Lib.hid (HB0.out.trans (hb.mono HB0.out.size))
  have HL1 := Lib.hid hb
  clear hb
  clear hen hW
  clear c0 c1 c2 c3 c4
  obtain ⟨c0, c1, c2, c3, c4, _, _⟩ := stp_cells (HG.out _ HB1.out)
  by_cases hz : e0 = 0
  · subst hz
    have hg : goodS s = 0 := Classical.byContradiction fun h => by have := HA.out; rw [encF_1 h] at this; injection this with _ h2; exact h h2.symm
    have ha : a = ⟨(encS s).toArray⟩ := by have := HA.out; rw [encF_2 hg] at this; exact (congrArg Prod.fst this)
    have HD1 := Lib.hid (show decodeSF a = (s, 0) by rw [ha]; exact decS_enc hg)
    have HD2 := Lib.hid (show decodeSF (a ++ ⟨#[120]⟩) = (zeroStp, 2) by rw [ha]; exact decS_more hg (by decide))
    have HAS := Lib.hid (show a.size ≤ 4000 by rw [ha, ← toList_length, toList_mk]; have := encS_length hg; omega)
    have has : a.size ≤ 4000 := HAS.out
    clear ha hg
    have hd1 := decodeStp_any a w1 (by have := HAS.out; omega)
    rw [HD1.out] at hd1
    go_wp2_with fail
    (with_reducible refine (hd1).mono ?_)
    rintro e w2 ⟨uw, us, rfl, how, hos, hb⟩
    have HB2 := Lib.hid (HB1.out.trans (hb.mono HB1.out.size))
    have HL2 := Lib.hid hb
    clear hb
    obtain ⟨x1, x2, rfl⟩ := rd_form (rdI_owns how)
    obtain ⟨x3, x4, rfl⟩ := rd_form (rdS_owns hos)
    have HOW := Lib.hid how
    have HOS := Lib.hid hos
    clear c0 c1 c2 c3 c4
    clear how hos hd1
    go_wp2_with (refine wpList_store_blk (by rfl) 25 (.tmp 5) (.tmp 30) rfl w2.heap.size #[.string s.ref, .string s.old, .string s.new, .slice x1 s.who.length x2, .slice x3 s.seals.length x4] rfl rfl (old := _) (heap_alloc_new _ _) (by kernel_rfl) rfl (by simp [Value.oneCell']) ?_; intro wz hgz huz; have HZ := Lib.hid (below_upd ((Below.refl w2.heap.size w2).alloc (Nat.le_refl _) _) huz (Nat.le_refl _) (by simp)); have HX := Lib.hid (StpOwn.mk hgz (owns_below HOW.out HZ.out) (owns_below HOS.out HZ.out)); have HB3 := Lib.hid (HB2.out.trans (HZ.out.mono HB2.out.size)); clear hgz huz)
    have hd2 := decodeStp_any (a ++ ⟨#[120]⟩) wz (by rw [ByteArray.size_append]; have := HAS.out; have e : (⟨#[120]⟩ : ByteArray).size = 1 := rfl; omega)
    rw [HD2.out] at hd2
    (with_reducible refine (hd2).mono ?_)
    rintro e w4 ⟨uw, us, rfl, how, hos, hb⟩
    have HB4 := Lib.hid (HB3.out.trans (hb.mono HB3.out.size))
    have HL4 := Lib.hid hb
    clear hb
    obtain ⟨y1, y2, rfl⟩ := rd_form (rdI_owns how)
    obtain ⟨y3, y4, rfl⟩ := rd_form (rdS_owns hos)
    have HX4 := Lib.hid (HX.out.below HL4.out)
    clear how hos hd2 HX
    go_wp2_with (refine wpList_store_blk (by rfl) 25 (.tmp 7) (.tmp 36) rfl w4.heap.size #[.string zeroStp.ref, .string zeroStp.old, .string zeroStp.new, .slice y1 zeroStp.who.length y2, .slice y3 zeroStp.seals.length y4] rfl rfl (old := _) (heap_alloc_new _ _) (by kernel_rfl) rfl (by simp [Value.oneCell']) ?_; intro wy hgz huz; have HZ4 := Lib.hid (below_upd ((Below.refl w4.heap.size w4).alloc (Nat.le_refl _) _) huz (Nat.le_refl _) (by simp)); have HX5 := Lib.hid (HX4.out.below HZ4.out); have HB5 := Lib.hid (HB4.out.trans (HZ4.out.mono HB4.out.size)); obtain ⟨d0, d1, d2, d3, d4, _, _⟩ := stp_cells HX5.out.blk; obtain ⟨c0, c1, c2, c3, c4, _, _⟩ := stp_cells (HG.out _ HB5.out); clear hgz huz)
    (with_reducible refine (sameStep_any s s _ _ _ _ _ (rdI_owns HX5.out.ow) (rdS_owns HX5.out.os) (HRW.out _ HB5.out) (HRS.out _ HB5.out) true (by simp)).mono ?_)
    rintro e w6 ⟨rfl, hb⟩
    have HB6 := Lib.hid (HB5.out.trans (hb.mono HB5.out.size))
    have HL6 := Lib.hid hb
    clear hb
    clear c0 c1 c2 c3 c4 d0 d1 d2 d3 d4
    go_wp2_with fail
    (with_reducible refine (steps_any _ (HT.out.below (HW0.out.trans (HB6.out.mono HW0.out.size)))).mono ?_)
    rintro e w9 ⟨rfl, hb⟩
    have HB9 := Lib.hid (HB6.out.trans (hb.mono HB6.out.size))
    clear hb
    go_wp2_with fail
    go_ret
    exact ⟨rfl, HW0.out.trans (HB9.out.mono HW0.out.size)⟩
  · have n1 : (e0 == 0) = false := beq_eq_false_iff_ne.2 hz
    have n2 : (e0 != 0) = true := by rw [bne, n1]; rfl
    have hg : goodS s ≠ 0 := fun h => hz (by have := HA.out; rw [encF_2 h] at this; exact (congrArg Prod.snd this))
    have ha := HA.out
    rw [encF_1 hg] at ha
    obtain ⟨rfl, rfl⟩ : a = noB ∧ e0 = goodS s := by injection ha with h1 h2; exact ⟨h1, h2⟩
    have hgd := goodStp_any s _ _ w1 (HRW.out _ HB1.out) (HRS.out _ HB1.out)
    have hnb : noB.toList.isEmpty = true := by rw [ByteArray.toList_eq]; rfl
    have hee : (goodS s == goodS s) = true := beq_self_eq_true _
    clear hz hg ha
    go_wp2_with fail
    (with_reducible refine (hgd).mono ?_)
    rintro e w2 ⟨rfl, hb⟩
    have HB2 := Lib.hid (HB1.out.trans (hb.mono HB1.out.size))
    have HL2 := Lib.hid hb
    clear hb
    go_wp2_with fail
    (with_reducible refine (steps_any _ (HT.out.below (HW0.out.trans (HB2.out.mono HW0.out.size)))).mono ?_)
    rintro e w9 ⟨rfl, hb⟩
    have HB9 := Lib.hid (HB2.out.trans (hb.mono HB2.out.size))
    clear hb
    go_wp2_with fail
    go_ret
    exact ⟨rfl, HW0.out.trans (HB9.out.mono HW0.out.size)⟩
end Go.Proofs.YtinhjnbgblieeaaDoor
