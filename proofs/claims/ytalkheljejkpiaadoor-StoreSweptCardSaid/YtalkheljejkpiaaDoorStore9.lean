/- The walk of package store's Sweep. -/
import Derived.Test.YtalkheljejkpiaaDoorStore6
import Derived.Test.YtalkheljejkpiaaDoorStoreLaw2
import Derived.Test.YtalkheljejkpiaaDoorOwnK
import Derived.Test.YtalkheljejkpiaaDoorCut
import Derived.Test.YtalkheljejkpiaaDoorSumUnhex
namespace Go.Proofs.YtalkheljejkpiaaDoor
open Go.RowKit
set_option linter.unusedVariables false
set_option linter.unusedSimpArgs false

/-- A name of an object that is not to be kept. -/
def dropsF (keep : List ByteArray) (n : ByteArray) : Prop := (cutF n).2 = true ∧ unE (cutF n).1 = 0 ∧ (unR (cutF n).1).size = 32 ∧ hasB keep (unR (cutF n).1) = false
open Classical in
noncomputable def swG (keep : List ByteArray) : List Fil → Dsk → Dsk × Int
  | [], d => (d, 0)
  | f :: r, d => if dropsF keep f.name then (if (removeD namedD d f.name).2 ≠ 0 then removeD namedD d f.name else swG keep r (removeD namedD d f.name).1) else swG keep r d
noncomputable def sweepF (d : Dsk) (ids : List ByteArray) : Dsk × Int := if (reachF (getF d) ids).2 ≠ 0 then (d, (reachF (getF d) ids).2) else swG (reachF (getF d) ids).1 d.files d
section
variable {keep ids : List ByteArray} {f : Fil} {r : List Fil} {d q : Dsk} {e : Int}
theorem swG_1 (h : ¬ ((cutF f.name).2 = true ∧ unE (cutF f.name).1 = 0 ∧ (unR (cutF f.name).1).size = 32 ∧ hasB keep (unR (cutF f.name).1) = false)) : swG keep (f :: r) d = swG keep r d := by rw [swG, if_neg (show ¬ dropsF keep f.name from h)]
theorem swG_2 (h : dropsF keep f.name) (h2 : removeD namedD d f.name = (q, e)) (he : e ≠ 0) : swG keep (f :: r) d = (q, e) := by rw [swG, if_pos h, h2, if_pos he]
theorem swG_3 (h : dropsF keep f.name) (h2 : removeD namedD d f.name = (q, 0)) : swG keep (f :: r) d = swG keep r q := by rw [swG, if_pos h, h2, if_neg (by simp)]
theorem sweepF_1 (h : reachF (getF d) ids = (keep, e)) (he : e ≠ 0) : sweepF d ids = (d, e) := by unfold sweepF; rw [h, if_pos he]
theorem sweepF_2 (h : reachF (getF d) ids = (keep, 0)) : sweepF d ids = swG keep d.files d := by unfold sweepF; rw [h, if_neg (by simp)]
end
set_option maxRecDepth 100000 in
set_option maxHeartbeats 3200000 in
theorem sweep_anyN (l : List Fil) (fuse : Int) (hfu : -9223372036854775808 ≤ fuse ∧ fuse ≤ 9223372036854775807) (v : Value) (w : World) (hr : rdF w v l) (hsm : ∀ f ∈ l, f.name.size ≤ 281474976710656) (hl : l.length ≤ 400) (ids : List ByteArray) (vi : Value) (hri : rdS w vi ids) (hsi : smalls ids) (hn : ids.length ≤ 8796093023000) (ht : Tab w) :
    Calls Tryd.prog 30 #[.agg #[v, .int .i64 fuse], vi] w (RetN w v l (sweepF ⟨l, fuse⟩ ids)) := by
  obtain ⟨F, hF⟩ : ∃ F, F = sweepF ⟨l, fuse⟩ ids := ⟨_, rfl⟩
  rw [← hF]
  have HFF := Lib.hid hF
  have HFU := Lib.hid hfu
  have HSM := Lib.hid hsm
  have HLL := Lib.hid hl
  obtain ⟨ao, cp, rfl⟩ := rd_form hr
  obtain ⟨i1, i2, rfl⟩ := rd_form hri
  obtain ⟨W, hW⟩ : ∃ W, (w.alloc (.cells #[.slice ao l.length cp, .int .i64 fuse] 38)).alloc (.cells #[.slice none 0 0, .int .i64 0] 38) = W := ⟨_, rfl⟩
  have hbW : Below w.heap.size w W := by rw [← hW]; exact ((Below.refl _ _).alloc (Nat.le_refl _) _).alloc (by simp) _
  have g0 : W.heap[w.heap.size]? = some (.cells #[.slice ao l.length cp, .int .i64 fuse] 38 (0, 0)) := by rw [← hW]; exact heap_old (heap_alloc_new _ _)
  have g1 : W.heap[w.heap.size + 1]? = some (.cells #[.slice none 0 0, .int .i64 0] 38 (0, 0)) := by rw [← hW]; exact heap_new (by simp)
  have hcl := closure_any l fuse (.slice ao l.length cp) W (hr.below hbW) ids _ (hri.below hbW) hsi hn (ht.below hbW)
  obtain ⟨⟨keep, e0⟩, hq⟩ : ∃ q, q = reachF (getF ⟨l, fuse⟩) ids := ⟨_, rfl⟩
  rw [← hq] at hcl
  have HQ := Lib.hid hq.symm
  have HC := Lib.hid hcl
  have HW0 := Lib.hid hbW
  have HRW := Lib.hid (hr.below hbW)
  have GD0 := Lib.hid g0
  have GR0 := Lib.hid g1
  obtain ⟨c0, c1_, z0, z1⟩ := cell_of_two g0
  clear hF hr hri hsm hl hsi hn ht hbW g0 g1 hcl hq hfu
  go_enter Tryd.func30, Tryd.ntmps30
  go_wp2_with fail
  (with_reducible refine HC.out.mono ?_)
  rintro e w1 ⟨vk, rfl, hrk, hb⟩
  obtain ⟨k1, k2, rfl⟩ := rd_form hrk
  have GD := Lib.hid (blk_below GD0.out hb)
  have GR := Lib.hid (blk_below GR0.out hb)
  have RD := Lib.hid (HRW.out.below hb)
  have RK := Lib.hid hrk
  have NW := Lib.hid (show NewF w.heap.size w1 (.slice ao l.length cp) (.slice ao l.length cp) l l from .inl ⟨rfl, rfl⟩)
  have HB := Lib.hid (HW0.out.trans (hb.mono HW0.out.size))
  clear HC hb hrk GD0 GR0 HRW hW c0 c1_ z0 z1
  by_cases he : e0 = 0
  · subst he
    have HF0 := Lib.hid (HFF.out.trans (sweepF_2 HQ.out))
    have HC := Lib.hid (clone_any l _ w1 RD.out (by have := HLL.out; omega))
    obtain ⟨c0, c1_, z0, z1⟩ := cell_of_two GD.out
    go_wp2_with fail
    (with_reducible refine HC.out.mono ?_)
    rintro e w2 ⟨vc, rfl, hoc, hb⟩
    clear c0 c1_ z0 z1
    replace GD := Lib.hid (blk_below GD.out hb)
    replace GR := Lib.hid (blk_below GR.out hb)
    replace RD := Lib.hid (RD.out.below hb)
    replace RK := Lib.hid (RK.out.below hb)
    replace NW := Lib.hid (NW.out.below hb)
    replace HB := Lib.hid (HB.out.trans (hb.mono HB.out.size))
    obtain ⟨q1, q2, rfl⟩ := owns_slice hoc
    have OC := Lib.hid hoc
    obtain ⟨B1, hB1⟩ : ∃ x, x = w1.heap.size := ⟨_, rfl⟩
    rw [← hB1] at OC
    clear HC hb hoc hB1
    go_wp2_with fail
    go_loopw [28] (fun i wr => ∃ (k : Nat) (dl : List Fil) (a1 : Option Addr) (c1 : Nat) (fz : Int), k ≤ l.length ∧ i = .int .i64 (k : Int) ∧ Hid (F = swG keep (l.drop k) ⟨dl, fz⟩) ∧ Hid (wr.heap[w.heap.size]? = some (.cells #[.slice a1 dl.length c1, .int .i64 fz] 38 (0, 0))) ∧ Hid (wr.heap[w.heap.size + 1]? = some (.cells #[.slice none 0 0, .int .i64 0] 38 (0, 0))) ∧ Hid (rdF wr (.slice a1 dl.length c1) dl) ∧ Hid (rdS wr (.slice k1 keep.length k2) keep) ∧ Hid (wr.ownsRow B1 92 3 (.slice q1 l.length q2) l.length (fvs l)) ∧ Hid (NewF w.heap.size wr (.slice ao l.length cp) (.slice a1 dl.length c1) l dl) ∧ Hid (-9223372036854775808 ≤ fz ∧ fz ≤ 9223372036854775807) ∧ Hid (Below w.heap.size w wr)) (fun i _ => l.length - (intOf i).toNat)
    case atStart => exact ⟨0, l, ao, cp, fuse, Nat.zero_le _, rfl, HF0, GD, GR, RD, RK, OC, NW, HFU, HB⟩
    case round =>
      clear GD GR RD RK OC NW HB HF0
      obtain ⟨k, dl, a1, c1, fz, hk, rfl, HF, GD, GR, RD, RK, OC, NW, HFZ, HB⟩ := hrel
      by_cases hkl : k < l.length
      · have HKL := Lib.hid hkl
        have kb : decide ((k : Int) < (l.length : Int)) = true := decide_eq_true (by omega)
        have ki : (k : Int) < (l.length : Int) := by omega
        have kz : (0 : Int) ≤ (k : Int) := by omega
        have k4 : (k : Int) < 400 := by have := HLL.out; omega
        obtain ⟨b, off, hae, hblt, hcell⟩ := rdF_at (rdF_owns OC.out) (by omega)
        obtain ⟨x, hx⟩ : ∃ x, x = l.getD k zeroFil := ⟨_, rfl⟩
        obtain ⟨d0, d1, d2⟩ := hcell k hkl
        rw [← hx] at d0 d1 d2
        subst hae
        have HNZ := Lib.hid (show x.name.size ≤ 281474976710656 by rw [hx, List.getD, List.getElem?_eq_getElem hkl]; exact HSM.out _ (List.getElem_mem hkl))
        have HDR := Lib.hid (show l.drop k = x :: l.drop (k + 1) by rw [hx, List.getD, List.getElem?_eq_getElem hkl]; exact List.drop_eq_getElem_cons hkl)
        have hcut := fun wx => cut_any x.name wx (by have := HNZ.out; omega)
        have hcz := cutF_size x.name
        obtain ⟨⟨s, ok⟩, hq⟩ : ∃ q, q = cutF x.name := ⟨_, rfl⟩
        rw [← hq] at hcut hcz
        have HCT := Lib.hid hcut
        have HCQ := Lib.hid hq.symm
        have HCZ := Lib.hid (show s.size ≤ 281474976710656 from Nat.le_trans hcz HNZ.out)
        clear hcut hcz hq hx hcell hkl
        go_wp2_with (refine wpList_store_blk (by rfl) 92 (.tmp 9) (.tmp 31) rfl wr.heap.size #[.string x.name, .string x.safe, .string x.tail] rfl rfl (old := _) (heap_alloc_new _ _) (by kernel_rfl) rfl (by simp [Value.oneCell']) ?_; intro w3 gy uy; have hbz := below_upd ((Below.refl wr.heap.size wr).alloc (Nat.le_refl _) _) uy (Nat.le_refl _) (by simp); replace GD := Lib.hid (blk_below GD.out hbz); replace GR := Lib.hid (blk_below GR.out hbz); replace RD := Lib.hid (RD.out.below hbz); replace RK := Lib.hid (RK.out.below hbz); replace OC := Lib.hid (owns_below OC.out hbz); replace NW := Lib.hid (NW.out.below hbz); replace HB := Lib.hid (HB.out.trans (hbz.mono HB.out.size)); have GF := Lib.hid gy; obtain ⟨f0, f1, f2⟩ := three_cells gy; clear gy uy hbz)
        clear d0 d1 d2
        obtain ⟨fb, hfb⟩ : ∃ x, x = wr.heap.size := ⟨_, rfl⟩
        rw [← hfb] at GF f0 f1 f2
        try rw [← hfb]
        clear hfb
        (with_reducible refine (HCT.out w3).mono ?_)
        rintro e wy ⟨rfl, rfl⟩
        clear HCT
        have hun := unhex_any s wy HCZ.out
        have hrz := unR_size s
        obtain ⟨r, hr0⟩ : ∃ r, r = unR s := ⟨_, rfl⟩
        obtain ⟨e1, he0⟩ : ∃ e, e = unE s := ⟨_, rfl⟩
        rw [← hr0, ← he0] at hun
        rw [← hr0] at hrz
        have HC := Lib.hid hun
        have HRZ := Lib.hid (show r.size ≤ 9223372036854775807 by have := HCZ.out; omega)
        have HR0 := Lib.hid hr0
        have HE0 := Lib.hid he0
        clear hun hrz hr0 he0
        go_wp2_with fail
        (with_reducible refine HC.out.mono ?_)
        rintro e w4 ⟨rfl, hb⟩
        clear f0 f1 f2
        replace GD := Lib.hid (blk_below GD.out hb)
        replace GR := Lib.hid (blk_below GR.out hb)
        replace GF := Lib.hid (blk_below GF.out hb)
        replace RD := Lib.hid (RD.out.below hb)
        replace RK := Lib.hid (RK.out.below hb)
        replace OC := Lib.hid (owns_below OC.out hb)
        replace NW := Lib.hid (NW.out.below hb)
        replace HB := Lib.hid (HB.out.trans (hb.mono HB.out.size))
        clear HC hb
        have hrzz := HRZ.out
        cases ok with
        | false =>
          go_wp2_with fail
          exact ⟨⟨k + 1, dl, a1, c1, fz, HKL.out, rfl, Lib.hid (HF.out.trans (by rw [HDR.out]; exact swG_1 (fun h => by rw [HCQ.out] at h; cases h.1))), GD, GR, RD, RK, OC, NW, HFZ, HB⟩, meas_step (n := l.length) _ rfl HKL.out⟩
        | true =>
          by_cases he : e1 = 0
          · subst he
            by_cases h32 : r.size = 32
            · have t1 : ((r.size : Int) == 32) = true := beq_iff_eq.2 (by omega)
              have t2 : ((r.size : Int) != 32) = false := by rw [bne, t1]; rfl
              have H32 := Lib.hid (show (unR s).size = 32 by rw [← HR0.out]; exact h32)
              clear h32
              have hct := containsS_any keep r _ w4 RK.out
              obtain ⟨hk_, hhk⟩ : ∃ h, h = hasB keep r := ⟨_, rfl⟩
              rw [← hhk] at hct
              have HC := Lib.hid hct
              have HHK := Lib.hid (show hasB keep (unR s) = hk_ by rw [← HR0.out]; exact hhk.symm)
              clear hct hhk
              go_wp2_with fail
              (with_reducible refine HC.out.mono ?_)
              rintro e w4' ⟨rfl, hw⟩
              subst hw
              clear HC
              cases hk_ with
              | true =>
                go_wp2_with fail
                exact ⟨⟨k + 1, dl, a1, c1, fz, HKL.out, rfl, Lib.hid (HF.out.trans (by rw [HDR.out]; exact swG_1 (fun h => by rw [HCQ.out, HHK.out] at h; cases h.2.2.2))), GD, GR, RD, RK, OC, NW, HFZ, HB⟩, meas_step (n := l.length) _ rfl HKL.out⟩
              | false =>
                have HDP := Lib.hid (show dropsF keep x.name from ⟨by rw [HCQ.out], by rw [HCQ.out]; exact HE0.out.symm, by rw [HCQ.out]; exact H32.out, by rw [HCQ.out]; exact HHK.out⟩)
                have hrm := remove_anyN dl fz HFZ.out _ w4 RD.out x.name
                have hfz := (step_fz ⟨dl, fz⟩ (removeO x.name)).in HFZ.out
                obtain ⟨⟨⟨dn, fn⟩, e5⟩, hq⟩ : ∃ q, q = removeD namedD ⟨dl, fz⟩ x.name := ⟨_, rfl⟩
                rw [show (stepD namedD ⟨dl, fz⟩ (removeO x.name)) = (⟨dn, fn⟩, e5) from hq.symm] at hfz
                rw [← hq] at hrm
                have HQ := Lib.hid hq.symm
                have HC := Lib.hid hrm
                have HFN := Lib.hid hfz
                clear hrm hfz hq
                obtain ⟨c0, c1_, z0, z1⟩ := cell_of_two GD.out
                obtain ⟨f0, f1, f2⟩ := three_cells GF.out
                go_wp2_with fail
                (with_reducible refine HC.out.mono ?_)
                rintro e w5 ⟨v5, rfl, hrd, hb, hnw⟩
                clear HC f0 f1 f2 c0 c1_ z0 z1
                obtain ⟨a5, c5, rfl⟩ := rd_form hrd
                have NW5 := Lib.hid (NW.out.trans hnw hb HB.out.size)
                replace GD := Lib.hid (blk_below GD.out hb)
                replace GR := Lib.hid (blk_below GR.out hb)
                replace RK := Lib.hid (RK.out.below hb)
                replace OC := Lib.hid (owns_below OC.out hb)
                replace HB := Lib.hid (HB.out.trans (hb.mono HB.out.size))
                clear RD
                have RD := Lib.hid hrd
                clear NW hb hrd hnw
                by_cases he5 : e5 = 0
                · subst he5
                  go_wp2_with (refine wpList_store_blk (by rfl) 38 (.tmp 2) (.tmp 64) rfl w.heap.size #[.slice a5 dn.length c5, .int .i64 fn] rfl rfl (old := _) GD.out (by kernel_rfl) rfl (by simp [Value.oneCell']) ?_; intro w6 gz uz; replace RD := Lib.hid (rdF_upd RD.out uz (no_str GD.out)); replace RK := Lib.hid (rdS_updK RK.out uz (no_str GD.out)); replace OC := Lib.hid (own_storeK OC.out uz GD.out (by decide)); have NW := Lib.hid (NW5.out.upd uz GD.out); replace GR := Lib.hid (blk_upd GR.out uz (Nat.succ_ne_self _)); replace HB := Lib.hid (below_upd HB.out uz (Nat.le_refl _) HB.out.size); replace GD := Lib.hid gz; clear gz uz NW5)
                  exact ⟨⟨k + 1, dn, a5, c5, fn, HKL.out, rfl, Lib.hid (HF.out.trans (by rw [HDR.out]; exact swG_3 HDP.out HQ.out)), GD, GR, RD, RK, OC, NW, HFN, HB⟩, meas_step (n := l.length) _ rfl HKL.out⟩
                · have n1 : (e5 == 0) = false := beq_eq_false_iff_ne.2 he5
                  have n2 : (e5 != 0) = true := by rw [bne, n1]; rfl
                  have hf : F = (⟨dn, fn⟩, e5) := HF.out.trans (by rw [HDR.out]; exact swG_2 HDP.out HQ.out he5)
                  subst hf
                  clear he5
                  go_wp2_with (first | (refine wpList_store_blk (by rfl) 38 (.tmp 2) (.tmp 64) rfl w.heap.size #[.slice a5 dn.length c5, .int .i64 fn] rfl rfl (old := _) GD.out (by kernel_rfl) rfl (by simp [Value.oneCell']) ?_; intro w6 gz uz; replace RD := Lib.hid (rdF_upd RD.out uz (no_str GD.out)); replace RK := Lib.hid (rdS_updK RK.out uz (no_str GD.out)); replace OC := Lib.hid (own_storeK OC.out uz GD.out (by decide)); have NW := Lib.hid (NW5.out.upd uz GD.out); replace GR := Lib.hid (blk_upd GR.out uz (Nat.succ_ne_self _)); replace HB := Lib.hid (below_upd HB.out uz (Nat.le_refl _) HB.out.size); replace GD := Lib.hid gz; clear gz uz NW5; obtain ⟨c0, c1_, z0, z1⟩ := cell_of_two GD.out) | (refine wpList_store_blk (by rfl) 38 (.tmp 4) (.tmp 68) rfl (w.heap.size + 1) #[.slice a5 dn.length c5, .int .i64 fn] rfl rfl (old := _) GR.out (by kernel_rfl) rfl (by simp [Value.oneCell']) ?_; intro wz gz uz))
                  obtain ⟨r0, r1, _, _⟩ := cell_of_two gz
                  refine bodyPost_ret (v := .tuple #[.agg #[.slice a5 dn.length c5, .int .i64 fn], .int .i64 e5]) ?_ rfl ⟨_, rfl, rdF_upd RD.out uz (no_str GR.out), below_upd HB.out uz (Nat.le_succ _) HB.out.size, NW.out.upd uz GR.out⟩
                  simp [results, Tryd.f30, go_sem, r0, r1] <;> rfl
            · have t1 : ((r.size : Int) == 32) = false := beq_eq_false_iff_ne.2 (by omega)
              have t2 : ((r.size : Int) != 32) = true := by rw [bne, t1]; rfl
              have HNE := Lib.hid (show (unR s).size ≠ 32 by rw [← HR0.out]; exact h32)
              clear h32
              go_wp2_with fail
              exact ⟨⟨k + 1, dl, a1, c1, fz, HKL.out, rfl, Lib.hid (HF.out.trans (by rw [HDR.out]; exact swG_1 (fun h => by rw [HCQ.out] at h; exact HNE.out h.2.2.1))), GD, GR, RD, RK, OC, NW, HFZ, HB⟩, meas_step (n := l.length) _ rfl HKL.out⟩
          · have n1 : (e1 == 0) = false := beq_eq_false_iff_ne.2 he
            have n2 : (e1 != 0) = true := by rw [bne, n1]; rfl
            have HNE := Lib.hid (show unE s ≠ 0 by rw [← HE0.out]; exact he)
            clear he
            go_wp2_with fail
            exact ⟨⟨k + 1, dl, a1, c1, fz, HKL.out, rfl, Lib.hid (HF.out.trans (by rw [HDR.out]; exact swG_1 (fun h => by rw [HCQ.out] at h; exact HNE.out h.2.1))), GD, GR, RD, RK, OC, NW, HFZ, HB⟩, meas_step (n := l.length) _ rfl HKL.out⟩
      · have kb : decide ((k : Int) < (l.length : Int)) = false := decide_eq_false (by omega)
        have kb2 : decide (k < l.length) = false := decide_eq_false hkl
        have hf := HF.out
        rw [List.drop_eq_nil_of_le (by omega)] at hf
        have hf2 : F = (⟨dl, fz⟩, 0) := hf
        subst hf2
        clear hkl hf HF HFF
        obtain ⟨c0, c1_, z0, z1⟩ := cell_of_two GD.out
        go_wp2_with (refine wpList_store_blk (by rfl) 38 (.tmp 4) (.tmp 71) rfl (w.heap.size + 1) #[.slice a1 dl.length c1, .int .i64 fz] rfl rfl (old := _) GR.out (by kernel_rfl) rfl (by simp [Value.oneCell']) ?_; intro wz gz uz)
        obtain ⟨r0, r1, _, _⟩ := cell_of_two gz
        refine bodyPost_ret (v := .tuple #[.agg #[.slice a1 dl.length c1, .int .i64 fz], .int .i64 0]) ?_ rfl ⟨_, rfl, rdF_upd RD.out uz (no_str GR.out), below_upd HB.out uz (Nat.le_succ _) HB.out.size, NW.out.upd uz GR.out⟩
        simp [results, Tryd.f30, go_sem, r0, r1] <;> rfl
  · have n1 : (e0 == 0) = false := beq_eq_false_iff_ne.2 he
    have n2 : (e0 != 0) = true := by rw [bne, n1]; rfl
    have hf := HFF.out.trans (sweepF_1 HQ.out he)
    subst hf
    clear he
    obtain ⟨c0, c1_, z0, z1⟩ := cell_of_two GD.out
    go_wp2_with (refine wpList_store_blk (by rfl) 38 (.tmp 4) (.tmp 22) rfl (w.heap.size + 1) #[.slice ao l.length cp, .int .i64 fuse] rfl rfl (old := _) GR.out (by kernel_rfl) rfl (by simp [Value.oneCell']) ?_; intro wz gz uz)
    obtain ⟨r0, r1, _, _⟩ := cell_of_two gz
    refine bodyPost_ret (v := .tuple #[.agg #[.slice ao l.length cp, .int .i64 fuse], .int .i64 e0]) ?_ rfl ⟨_, rfl, rdF_upd RD.out uz (no_str GR.out), below_upd HB.out uz (Nat.le_succ _) HB.out.size, NW.out.upd uz GR.out⟩
    simp [results, Tryd.f30, go_sem, r0, r1] <;> rfl
theorem sweep_any (l : List Fil) (fuse : Int) (hfu : -9223372036854775808 ≤ fuse ∧ fuse ≤ 9223372036854775807) (v : Value) (w : World) (hr : rdF w v l) (hsm : ∀ f ∈ l, f.name.size ≤ 281474976710656) (hl : l.length ≤ 400) (ids : List ByteArray) (vi : Value) (hri : rdS w vi ids) (hsi : smalls ids) (hn : ids.length ≤ 8796093023000) (ht : Tab w) :
    Calls Tryd.prog 30 #[.agg #[v, .int .i64 fuse], vi] w (RetD w (sweepF ⟨l, fuse⟩ ids)) :=
  (sweep_anyN l fuse hfu v w hr hsm hl ids vi hri hsi hn ht).mono (fun _ _ h => h.d)
end Go.Proofs.YtalkheljejkpiaaDoor
