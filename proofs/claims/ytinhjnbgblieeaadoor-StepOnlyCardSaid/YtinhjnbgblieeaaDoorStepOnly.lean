/- StepOnly: what is decoded has just these bytes. -/
import Derived.Test.YtinhjnbgblieeaaDoorStep6
import Derived.Test.YtinhjnbgblieeaaDoorStep8
namespace Go.Proofs.YtinhjnbgblieeaaDoor
open Go.RowKit
set_option linter.unusedVariables false
set_option linter.unusedSimpArgs false

set_option maxRecDepth 100000 in
set_option maxHeartbeats 3200000 in
theorem stepOnly_walk (b : ByteArray) (fb : b.size ≤ 140737488351232) (w : World) (ht : Tab w) :
    Calls Tryd.prog 9 #[.string b] w fun e w' => e = .returned (.bool true) ∧ Below w.heap.size w w' := by
  have HT := Lib.hid ht
  have HW0 := Lib.hid (Below.refl w.heap.size w)
  have HB0 := Lib.hid (Below.refl w.heap.size w)
  have hd1 := decodeStp_any b w (by omega)
  obtain ⟨⟨x, e0⟩, hae⟩ : ∃ q, q = decodeSF b := ⟨_, rfl⟩
  rw [← hae] at hd1
  have HA := Lib.hid hae
  clear ht hae
  go_enter Tryd.func9, Tryd.ntmps9
  go_wp2_with fail
  (with_reducible refine (hd1).mono ?_)
  rintro e w2 ⟨uw, us, rfl, how, hos, hb⟩
  have HB2 := Lib.hid (HB0.out.trans (hb.mono HB0.out.size))
  have HL2 := Lib.hid hb
  clear hb
  obtain ⟨x1, x2, rfl⟩ := rd_form (rdI_owns how)
  obtain ⟨x3, x4, rfl⟩ := rd_form (rdS_owns hos)
  have HOW := Lib.hid how
  have HOS := Lib.hid hos
  clear how hos hd1
  by_cases hz : e0 = 0
  · subst hz
    have hok := decS_ok (b := b) (by rw [← HA.out])
    rw [← HA.out] at hok
    obtain rfl : x = dS b := congrArg Prod.fst hok.1
    have HEN := Lib.hid (show encodeSF (dS b) = (b, 0) by rw [encF_2 hok.2.1]; exact Prod.ext (bs_ext (by simpa using hok.2.2)) rfl)
    obtain ⟨x, hx⟩ : ∃ x, x = dS b := ⟨_, rfl⟩
    rw [← hx] at HOW HOS HEN ⊢
    clear hok hx HA
    have hbb : (b.toList == b.toList) = true := beq_self_eq_true _
    go_wp2_with (refine wpList_store_blk (by rfl) 25 (.tmp 3) (.tmp 10) rfl w2.heap.size #[.string x.ref, .string x.old, .string x.new, .slice x1 x.who.length x2, .slice x3 x.seals.length x4] rfl rfl (old := _) (heap_alloc_new _ _) (by kernel_rfl) rfl (by simp [Value.oneCell']) ?_; intro wz hgz huz; have HZ := Lib.hid (below_upd ((Below.refl w2.heap.size w2).alloc (Nat.le_refl _) _) huz (Nat.le_refl _) (by simp)); have HX := Lib.hid (StpOwn.mk hgz (owns_below HOW.out HZ.out) (owns_below HOS.out HZ.out)); have HB3 := Lib.hid (HB2.out.trans (HZ.out.mono HB2.out.size)); obtain ⟨c0, c1, c2, c3, c4, _, _⟩ := stp_cells hgz; clear hgz huz)
    have hen := encodeStp_any x _ _ wz (rdI_owns HX.out.ow) (rdS_owns HX.out.os)
    rw [HEN.out] at hen
    (with_reducible refine (hen).mono ?_)
    rintro e w4 ⟨rfl, hb⟩
    have HB4 := Lib.hid (HB3.out.trans (hb.mono HB3.out.size))
    have HL4 := Lib.hid hb
    clear hb
    clear c0 c1 c2 c3 c4 hen
    go_wp2_with fail
    (with_reducible refine (steps_any _ (HT.out.below (HW0.out.trans (HB4.out.mono HW0.out.size)))).mono ?_)
    rintro e w9 ⟨rfl, hb⟩
    have HB9 := Lib.hid (HB4.out.trans (hb.mono HB4.out.size))
    clear hb
    go_wp2_with fail
    go_ret
    exact ⟨rfl, HW0.out.trans (HB9.out.mono HW0.out.size)⟩
  · have n1 : (e0 == 0) = false := beq_eq_false_iff_ne.2 hz
    have n2 : (e0 != 0) = true := by rw [bne, n1]; rfl
    have hbd := decS_bad (b := b) (by rw [← HA.out]; exact hz)
    rw [← HA.out] at hbd
    simp only at hbd
    subst hbd
    clear hz HA
    have hnb : (ByteArray.toList ⟨#[]⟩).isEmpty = true := by rw [ByteArray.toList_eq]; rfl
    go_wp2_with (refine wpList_store_blk (by rfl) 25 (.tmp 3) (.tmp 10) rfl w2.heap.size #[.string ⟨#[]⟩, .string ⟨#[]⟩, .string ⟨#[]⟩, .slice x1 0 x2, .slice x3 0 x4] rfl rfl (old := _) (heap_alloc_new _ _) (by kernel_rfl) rfl (by simp [Value.oneCell']) ?_; intro wz hgz huz; have HZ := Lib.hid (below_upd ((Below.refl w2.heap.size w2).alloc (Nat.le_refl _) _) huz (Nat.le_refl _) (by simp)); have HB3 := Lib.hid (HB2.out.trans (HZ.out.mono HB2.out.size)); obtain ⟨c0, c1, c2, c3, c4, _, _⟩ := stp_cells hgz; clear hgz huz)
    (with_reducible refine (steps_any _ (HT.out.below (HW0.out.trans (HB3.out.mono HW0.out.size)))).mono ?_)
    rintro e w9 ⟨rfl, hb⟩
    have HB9 := Lib.hid (HB3.out.trans (hb.mono HB3.out.size))
    clear hb
    go_wp2_with fail
    go_ret
    exact ⟨rfl, HW0.out.trans (HB9.out.mono HW0.out.size)⟩
end Go.Proofs.YtinhjnbgblieeaaDoor
