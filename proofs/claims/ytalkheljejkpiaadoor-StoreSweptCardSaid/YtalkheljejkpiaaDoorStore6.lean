/- The walk of package store's Closure. -/
import Derived.Test.YtalkheljejkpiaaDoorStore5
import Derived.Test.YtalkheljejkpiaaDoorStore1
namespace Go.Proofs.YtalkheljejkpiaaDoor
open Go.RowKit Go.Maps
set_option linter.unusedVariables false
set_option linter.unusedSimpArgs false

theorem getF_small (d : Dsk) (x : ByteArray) : (getF d x).1.size ≤ 140737488355328 := by
  obtain ⟨⟨s, e⟩, hq⟩ : ∃ q, q = getF d x := ⟨_, rfl⟩
  rw [← hq]
  by_cases he : e = 0
  · subst he
    obtain ⟨hg, f, hf, rfl⟩ := read_good (get_sum hq.symm).2.2
    have := hg.size f (getL_some Fil.name hf).1
    show (f.safe ++ f.tail).size ≤ _
    rw [ByteArray.size_append]; omega
  · have := get_bad (d := d) (id := x) (by rw [← hq]; exact he)
    rw [← hq] at this
    rw [show s = nilB from this]; exact Nat.zero_le _
set_option maxRecDepth 100000 in
set_option maxHeartbeats 3200000 in
theorem getOk_disk {w : World} {l : List Fil} {fuse : Int} {ao : Option Addr} {cp bb : Nat} (hg : w.heap[bb]? = some (.cells #[.slice ao l.length cp, .int .i64 fuse] 38 (0, 0))) (hr : rdF w (.slice ao l.length cp) l) (ht : Tab w) :
    GetOk 52 #[.pointer (some ⟨bb, 0, none⟩)] w (getF ⟨l, fuse⟩) := by
  intro W id hW hi
  have hgW := blk_below hg hW
  obtain ⟨c0, c1, z0, z1⟩ := cell_of_two hgW
  have hgt := sget_any l fuse _ W (hr.below hW) id (by omega) (ht.below hW)
  obtain ⟨⟨F, e⟩, hF⟩ : ∃ F, F = getF ⟨l, fuse⟩ id := ⟨_, rfl⟩
  rw [← hF] at hgt ⊢
  have HC := Lib.hid hgt
  clear hF hg hr ht hgW hW hi hgt
  go_enter Tryd.func52, Tryd.ntmps52
  go_wp2_with fail
  (with_reducible refine HC.out.mono ?_)
  rintro e w1 ⟨rfl, hb⟩
  have HB := Lib.hid hb
  clear hb HC
  go_wp2_with fail
  go_ret2
  exact ⟨rfl, HB.out⟩
set_option maxRecDepth 100000 in
set_option maxHeartbeats 3200000 in
theorem closure_any (l : List Fil) (fuse : Int) (v : Value) (w : World) (hr : rdF w v l) (ids : List ByteArray) (vi : Value) (hri : rdS w vi ids) (hsm : smalls ids) (hn : ids.length ≤ 8796093023000) (ht : Tab w) :
    Calls Tryd.prog 26 #[.agg #[v, .int .i64 fuse], vi] w fun e w' => ∃ v', e = .returned (.tuple #[v', .int .i64 (reachF (getF ⟨l, fuse⟩) ids).2]) ∧ rdS w' v' (reachF (getF ⟨l, fuse⟩) ids).1 ∧ Below w.heap.size w w' := by
  obtain ⟨ao, cp, rfl⟩ := rd_form hr
  obtain ⟨i1, i2, rfl⟩ := rd_form hri
  obtain ⟨W, hW⟩ : ∃ W, w.alloc (.cells #[.slice ao l.length cp, .int .i64 fuse] 38) = W := ⟨_, rfl⟩
  have hbW : Below w.heap.size w W := by rw [← hW]; exact (Below.refl _ _).alloc (Nat.le_refl _) _
  have g0 : W.heap[w.heap.size]? = some (.cells #[.slice ao l.length cp, .int .i64 fuse] 38 (0, 0)) := by rw [← hW]; exact heap_alloc_new _ _
  have hre := reach_any 52 #[.pointer (some ⟨w.heap.size, 0, none⟩)] (getF ⟨l, fuse⟩) (enters_of Tryd.func52 (by kernel_rfl) rfl) ids _ W (getOk_disk g0 (hr.below hbW) (ht.below hbW)) (getF_small _) (hri.below hbW) hsm hn
  obtain ⟨⟨F, e⟩, hF⟩ : ∃ F, F = reachF (getF ⟨l, fuse⟩) ids := ⟨_, rfl⟩
  rw [← hF] at hre ⊢
  have HC := Lib.hid hre
  have HW0 := Lib.hid hbW
  clear hF hr hri hsm hn ht hbW g0 hre
  go_enter Tryd.func26, Tryd.ntmps26
  go_wp2_with fail
  (with_reducible refine HC.out.mono ?_)
  rintro e w1 ⟨v1, rfl, hrd, hb⟩
  have HB := Lib.hid (HW0.out.trans (hb.mono HW0.out.size))
  have HR := Lib.hid hrd
  clear hb HC hrd
  go_wp2_with fail
  go_ret2
  exact ⟨_, rfl, HR.out, HB.out⟩
end Go.Proofs.YtalkheljejkpiaaDoor
