/- The walk of the keep's stores. -/
import Derived.Test.YtalkheljejkpiaaDoorStore1
import Derived.Test.YtalkheljejkpiaaDoorStoreLaw2
namespace Go.Proofs.YtalkheljejkpiaaDoor
open Go.RowKit
set_option linter.unusedVariables false
set_option linter.unusedSimpArgs false

set_option maxRecDepth 100000 in
set_option maxHeartbeats 3200000 in
theorem stores_any (w : World) (ht : Tab w) : Calls Tryd.prog 19 #[] w fun e w' => e = .returned (.bool true) ∧ Below w.heap.size w w' := by
  have HT := Lib.hid (fun wr (h : Below w.heap.size w wr) => ht.below h)
  have HB0 := Lib.hid (Below.refl w.heap.size w)
  obtain ⟨⟨al, af⟩, h1, h2, h3, h4⟩ := put_oA
  obtain ⟨x, hx⟩ : ∃ x : ByteArray, (⟨#[1, 1, 97]⟩ : ByteArray) = x := ⟨_, rfl⟩
  have hxz : x.size ≤ 9223372036854775807 := by rw [← hx]; decide
  rw [hx] at h1 h2
  obtain ⟨id, hid⟩ : ∃ id, id = sumF x := ⟨_, rfl⟩
  rw [← hid] at h1 h2
  have hz32 : id.size ≤ 9223372036854775807 := by rw [hid, sumF_size]; decide
  have hp := sput_any [] (-1) (by omega) (.slice none 0 0) w (rdF_nil w) x hxz ht
  rw [h1] at hp
  have HP := Lib.hid hp
  have HG2 := Lib.hid h2
  have HZ := Lib.hid hz32
  have hoo := beq_yes x
  clear h1 h2 h3 h4 hid hp hxz ht hz32
  go_enter Tryd.func19, Tryd.ntmps19
  go_wp2_with fail
  (with_reducible refine HP.out.mono ?_)
  rintro e w1 ⟨v1, rfl, hr, hb⟩
  have HB1 := Lib.hid hb
  obtain ⟨a1, c1, rfl⟩ := rd_form hr
  have RA := Lib.hid hr
  clear hb hr HP
  go_wp2_with (refine wpList_store_blk (by rfl) 38 (.tmp 1) (.tmp 9) rfl w1.heap.size #[.slice a1 al.length c1, .int .i64 af] rfl rfl (old := _) (heap_alloc_new _ _) (by kernel_rfl) rfl (by simp [Value.oneCell']) ?_; intro w2 gz uz; skip; have hb := below_upd ((Below.refl w1.heap.size w1).alloc (Nat.le_refl _) _) uz (Nat.le_refl _) (by simp); have HB2 := Lib.hid (HB1.out.trans (hb.mono HB1.out.size)); replace RA := Lib.hid (RA.out.below hb); have GA := Lib.hid gz; clear gz uz hb; obtain ⟨kGA0, kGA1, kGAy, kGAz⟩ := cell_of_two GA.out)
  have hgt := sget_any al af _ w2 RA.out id HZ.out (HT.out _ HB2.out)
  rw [HG2.out] at hgt
  have HGT := Lib.hid hgt
  clear hgt
  have HC := Lib.hid (HGT.out)
  (with_reducible refine HC.out.mono ?_)
  rintro e w3 ⟨rfl, hb⟩
  clear kGA0 kGA1 kGAy kGAz
  have HB3 := Lib.hid (HB2.out.trans (hb.mono HB2.out.size))
  replace RA := Lib.hid (RA.out.below hb)
  replace GA := Lib.hid (blk_below GA.out hb)
  clear HC hb
  obtain ⟨kGA0, kGA1, kGAy, kGAz⟩ := cell_of_two GA.out
  go_wp2_with fail
  go_ret
  exact ⟨rfl, HB3.out⟩
end Go.Proofs.YtalkheljejkpiaaDoor
