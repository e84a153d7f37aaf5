/- DiskMoved: the walk and its law. -/
import Derived.Test.YtnggcldpojebkaaDisk9
import Derived.Test.YtnggcldpojebkaaDisk11
namespace Go.Proofs.Ytnggcldpojebkaa
open Go.RowKit
set_option linter.unusedVariables false
set_option linter.unusedSimpArgs false

theorem read_other {d d' : Dsk} {n : ByteArray} (hg : GoodL namedD d.files ↔ GoodL namedD d'.files) (h : fget n d'.files = fget n d.files) : readD namedD d' n = readD namedD d n := by
  unfold readD
  by_cases hx : GoodL namedD d.files
  · rw [if_neg (fun k => k (hg.1 hx)), if_neg (fun k => k hx), h]
  · rw [if_pos (fun k => hx (hg.2 k)), if_pos hx]
theorem beqD (a b : ByteArray) : (a.toList == b.toList) = decide (a = b) := by
  rw [Bool.eq_iff_iff]
  simp only [beq_iff_eq, decide_eq_true_eq]
  exact ⟨toList_inj, fun h => by rw [h]⟩
theorem moved_law {d : Dsk} {frm to : ByteArray} {l' : List Fil} {f' : Int} (h : ((⟨l', f'⟩, 0) : Dsk × Int) = renameD namedD d frm to) :
    ∃ x : ByteArray, readD namedD d frm = (x, 0) ∧ readD namedD ⟨l', f'⟩ to = (x, 0) ∧ (frm ≠ to → readD namedD ⟨l', f'⟩ frm = (nilB, 7)) ∧ GoodL namedD l' := by
  rcases step_cases namedD d (renameO namedD frm to) with ⟨_, h1⟩ | ⟨hg, _, h0, h1⟩
  · exact absurd (show (stepD namedD d (renameO namedD frm to)).2 = 0 from (congrArg Prod.snd h).symm) h1
  · have hr : l' = (renameO namedD frm to d.files).1 := congrArg (fun q : Dsk × Int => q.1.files) (h.trans h1)
    have hgood : GoodL namedD l' := by rw [hr]; exact rename_inv hg h0
    cases hn : namedD to with
    | false => rw [renameO_1 hn] at h0; exact absurd h0 (by simp)
    | true =>
      cases hf : fget frm d.files with
      | none => rw [renameO_2 hn hf] at h0; exact absurd h0 (by simp)
      | some x =>
        rw [renameO_3 hn hf] at hr
        simp only at hr
        refine ⟨x.safe ++ x.tail, readD_3 hg hf, ?_, fun hne => ?_, hgood⟩
        · exact readD_3 (d := ⟨l', f'⟩) (f := ⟨to, x.safe, x.tail⟩) hgood (by show fget to l' = _; rw [hr]; simp [getL_put])
        · exact readD_2 (d := ⟨l', f'⟩) hgood (by show fget frm l' = _; rw [hr]; simp [getL_put, getL_del, hne])
theorem step_same {d : Dsk} {op : List Fil → List Fil × Int} {l' : List Fil} {f' e : Int} (h : ((⟨l', f'⟩, e) : Dsk × Int) = stepD namedD d op) (he : e ≠ 0) : l' = d.files ∧ f' = d.fuse := by
  rcases step_cases namedD d op with ⟨h1, _⟩ | ⟨_, _, _, h1⟩
  · have := congrArg Prod.fst h
    rw [h1] at this
    exact ⟨congrArg Dsk.files this, congrArg Dsk.fuse this⟩
  · exact absurd (congrArg Prod.snd (h.trans h1)) he
set_option maxRecDepth 100000 in
set_option maxHeartbeats 3200000 in
theorem diskMoved_walk {w : World} (l : List Fil) (f : Int) (v : Value) (hr : rdF w v l) (hfu : -9223372036854775808 ≤ f ∧ f ≤ 9223372036854775807) (frm : ByteArray) (hfr : frm.size ≤ 140737488351232) (to : ByteArray) (hto : to.size ≤ 140737488351232) :
    Calls Try.prog 6 #[.agg #[v, .int .i64 f], .string frm, .string to] w fun e w' => e = .returned (.bool true) ∧ Below w.heap.size w w' := by
  obtain ⟨a0, p0, hv⟩ := rd_form hr
  subst hv
  obtain ⟨W, hW⟩ : ∃ W, w.alloc (.cells #[.slice a0 l.length p0, .int .i64 f] 30) = W := ⟨_, rfl⟩
  have hbW : Below w.heap.size w W := by rw [← hW]; exact (Below.refl _ _).alloc (Nat.le_refl _) _
  have g0 : W.heap[w.heap.size]? = some (.cells #[.slice a0 l.length p0, .int .i64 f] 30 (0, 0)) := by rw [← hW]; exact heap_alloc_new _ _
  have HBW := Lib.hid hbW
  have HG := Lib.hid (fun w' (h : Below W.heap.size W w') => blk_below g0 h)
  have HR := Lib.hid (hr.below hbW)
  have HB0 := Lib.hid (Below.refl W.heap.size W)
  obtain ⟨c0, c1, cz0, cz1⟩ := cell_of_two g0
  clear hr hbW g0
  have HRD := Lib.hid (read_any l f _ W HR.out frm)
  obtain ⟨⟨was, e1⟩, hrd⟩ : ∃ q, q = readD namedD ⟨l, f⟩ frm := ⟨_, rfl⟩
  rw [← hrd] at HRD
  have HQ1 := Lib.hid hrd
  obtain ⟨⟨⟨l2, f2⟩, e2⟩, hren⟩ : ∃ q, q = renameD namedD ⟨l, f⟩ frm to := ⟨_, rfl⟩
  have HQ2 := Lib.hid hren
  have HRN := Lib.hid (fun w' (h : Below W.heap.size W w') => rename_any l f hfu _ w' (HR.out.below h) frm to)
  rw [← hren] at HRN
  clear hrd hren hfu
  go_enter Try.func6, Try.ntmps6
  go_wp2_with fail
  (with_reducible refine (HRD.out).mono ?_)
  rintro e w1 ⟨rfl, hb⟩
  have HB1 := Lib.hid (HB0.out.trans (hb.mono HB0.out.size))
  clear hb
  clear c0 c1 cz0 cz1
  obtain ⟨c0, c1, cz0, cz1⟩ := cell_of_two (HG.out _ HB1.out)
  go_wp2_with fail
  (with_reducible refine (HRN.out _ HB1.out).mono ?_)
  rintro e w2 ⟨v', rfl, hrd, hb⟩
  obtain ⟨a2, p2, rfl⟩ : ∃ a p, v' = .slice a l2.length p := rd_form hrd
  have HB2 := Lib.hid (HB1.out.trans (hb.mono HB1.out.size))
  have HR2 := Lib.hid (show rdF w2 (.slice a2 l2.length p2) l2 from hrd)
  clear hb hrd HRN HRD hW
  obtain ⟨wA, hA⟩ : ∃ x, w2.alloc (.cells #[.slice a2 l2.length p2, .int .i64 f2] 30) = x := ⟨_, rfl⟩
  have gA : wA.heap[w2.heap.size]? = some (.cells #[.slice a2 l2.length p2, .int .i64 f2] 30 (0, 0)) := by rw [← hA]; exact heap_alloc_new _ _
  have HBA := Lib.hid (show Below W.heap.size W wA by rw [← hA]; exact HB2.out.alloc HB2.out.size _)
  have HRA := Lib.hid (show rdF wA (.slice a2 l2.length p2) l2 by rw [← hA]; exact HR2.out.below ((Below.refl _ _).alloc (Nat.le_refl _) _))
  have HGA := Lib.hid (fun w' (h : Below wA.heap.size wA w') => blk_below gA h)
  clear c0 c1 cz0 cz1
  obtain ⟨c0, c1, cz0, cz1⟩ := cell_of_two (HG.out _ HBA.out)
  obtain ⟨d0, d1, dz0, dz1⟩ := cell_of_two (HGA.out _ (Below.refl _ wA))
  clear gA
  by_cases he : e2 = 0
  · subst he
    obtain ⟨x, hx1, hx2, hx3, hx4⟩ := moved_law HQ2.out
    have hw1 : (was, e1) = (x, 0) := HQ1.out.trans hx1
    have hw2 : was = x := congrArg Prod.fst hw1
    have hw3 : e1 = 0 := congrArg Prod.snd hw1
    subst hw2
    subst hw3
    have HT := Lib.hid (fun w' (h : Below wA.heap.size wA w') => read_any l2 f2 _ w' (HRA.out.below h) to)
    rw [hx2] at HT
    have HFR := Lib.hid (fun w' (h : Below wA.heap.size wA w') => read_any l2 f2 _ w' (HRA.out.below h) frm)
    have HGO := Lib.hid (fun w' (h : Below wA.heap.size wA w') => goodD_any l2 _ f2 w' (HRA.out.below h))
    rw [goodB_true hx4] at HGO
    have HX3 := Lib.hid hx3
    have HBr := Lib.hid (Below.refl wA.heap.size wA)
    clear hx1 hx2 hx3 hx4 hw1
    go_wp2_with fail
    (with_reducible refine (disks_any _).mono ?_)
    rintro e w3 ⟨rfl, hb⟩
    have HB3 := Lib.hid hb
    clear hb hA
    clear c0 c1 cz0 cz1
    clear d0 d1 dz0 dz1
    obtain ⟨d0, d1, dz0, dz1⟩ := cell_of_two (HGA.out _ HB3.out)
    go_wp2_with fail
    (with_reducible refine (HT.out _ HB3.out).mono ?_)
    rintro e w4 ⟨rfl, hb⟩
    have HB4 := Lib.hid (HB3.out.trans (hb.mono HB3.out.size))
    clear hb
    clear d0 d1 dz0 dz1
    obtain ⟨d0, d1, dz0, dz1⟩ := cell_of_two (HGA.out _ HB4.out)
    obtain ⟨⟨z, e4⟩, hz⟩ : ∃ q, q = readD namedD ⟨l2, f2⟩ frm := ⟨_, rfl⟩
    rw [← hz] at HFR
    go_wp2_with fail
    (with_reducible refine (HFR.out _ HB4.out).mono ?_)
    rintro e w5 ⟨rfl, hb⟩
    have HB5 := Lib.hid (HB4.out.trans (hb.mono HB4.out.size))
    clear hb
    clear d0 d1 dz0 dz1
    obtain ⟨d0, d1, dz0, dz1⟩ := cell_of_two (HGA.out _ HB5.out)
    have hbw : (was.toList == was.toList) = true := by simp
    by_cases hft : frm = to
    · have hbe : (frm.toList == to.toList) = true := by rw [beqD]; exact decide_eq_true hft
      clear hft hz
      go_wp2_with fail
      (with_reducible refine (HGO.out _ HB5.out).mono ?_)
      rintro e w6 ⟨rfl, hb⟩
      have HB6 := Lib.hid (HB5.out.trans (hb.mono HB5.out.size))
      clear hb
      go_wp2_with fail
      go_ret
      exact ⟨rfl, HBW.out.trans ((HBA.out.trans (HB6.out.mono HBA.out.size)).mono HBW.out.size)⟩
    · have hbe : (frm.toList == to.toList) = false := by rw [beqD]; exact decide_eq_false hft
      have hz2 : e4 = 7 := congrArg Prod.snd (hz.trans (HX3.out hft))
      subst hz2
      clear hft hz
      go_wp2_with fail
      (with_reducible refine (HGO.out _ HB5.out).mono ?_)
      rintro e w6 ⟨rfl, hb⟩
      have HB6 := Lib.hid (HB5.out.trans (hb.mono HB5.out.size))
      clear hb
      go_wp2_with fail
      go_ret
      exact ⟨rfl, HBW.out.trans ((HBA.out.trans (HB6.out.mono HBA.out.size)).mono HBW.out.size)⟩
  · obtain ⟨h1, h2⟩ := step_same HQ2.out he
    simp only at h1 h2
    subst h1
    subst h2
    have hn1 : (e2 == 0) = false := beq_eq_false_iff_ne.2 he
    have hn2 : (e2 != 0) = true := by rw [bne, hn1]; rfl
    have HSM := Lib.hid (sameDisk_any l2 f2 _ _ wA HRA.out (HR.out.below HBA.out))
    clear he
    go_wp2_with fail
    (with_reducible refine HSM.out.mono ?_)
    rintro e w3 ⟨rfl, hb⟩
    have HB3 := Lib.hid (HBA.out.trans (hb.mono HBA.out.size))
    clear hb
    go_wp2_with fail
    (with_reducible refine (disks_any _).mono ?_)
    rintro e w4 ⟨rfl, hb⟩
    have HB4 := Lib.hid (HB3.out.trans (hb.mono HB3.out.size))
    clear hb
    go_wp2_with fail
    go_ret
    exact ⟨rfl, HBW.out.trans (HB4.out.mono HBW.out.size)⟩
end Go.Proofs.Ytnggcldpojebkaa
