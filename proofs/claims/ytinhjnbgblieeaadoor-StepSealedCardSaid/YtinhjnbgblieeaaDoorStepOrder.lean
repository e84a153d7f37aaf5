/- StepOrder: in whichever order two signers sign, the step is the same, and nobody signs twice. -/
import Derived.Test.YtinhjnbgblieeaaDoorStep6
namespace Go.Proofs.YtinhjnbgblieeaaDoor
open Go.RowKit
set_option linter.unusedVariables false
set_option linter.unusedSimpArgs false

theorem sealF_32 : ∀ k b, (sealF k b).size = 32 := sealF_size
theorem signF_pair (sl : ByteArray → ByteArray → ByteArray) (s : Stp) (at_ a : Int) (k : ByteArray) : ∃ x e, signF sl s at_ a k = (x, e) := ⟨_, _, rfl⟩
set_option maxRecDepth 100000 in
set_option maxHeartbeats 3200000 in
theorem stepOrder_walk {w : World} (ht : Tab w) (s : Stp) (vw vs : Value) (hw : rdI w vw s.who) (hs : rdS w vs s.seals) (at_ : Int) (fat : -9223372036854775808 ≤ at_ ∧ at_ ≤ 9223372036854775807) (a : Int) (fa : -9223372036854775808 ≤ a ∧ a ≤ 9223372036854775807) (b : Int) (fb : -9223372036854775808 ≤ b ∧ b ≤ 9223372036854775807) (k : ByteArray) (fk : k.size ≤ 140737488351232) (l : ByteArray) (fl : l.size ≤ 140737488351232) :
    Calls Tryd.prog 3 #[.agg #[.string s.ref, .string s.old, .string s.new, vw, vs], .int .i64 at_, .int .i64 a, .int .i64 b, .string k, .string l] w fun e w' => e = .returned (.bool true) ∧ Below w.heap.size w w' := by
  obtain ⟨ae1, ae2, rfl⟩ := rd_form hw
  obtain ⟨ae3, ae4, rfl⟩ := rd_form hs
  have HT := Lib.hid ht
  have HW := Lib.hid hw
  have HS := Lib.hid hs
  have HKK := Lib.hid (And.intro fk fl)
  clear ht hw hs fat fa fb fk fl
  obtain ⟨W0, hW⟩ : ∃ W, w.alloc (.cells #[.string s.ref, .string s.old, .string s.new, .slice ae1 s.who.length ae2, .slice ae3 s.seals.length ae4] 25) = W := ⟨_, rfl⟩
  have hbW : Below w.heap.size w W0 := by rw [← hW]; exact (Below.refl _ _).alloc (Nat.le_refl _) _
  have g0 : W0.heap[w.heap.size]? = some (.cells #[.string s.ref, .string s.old, .string s.new, .slice ae1 s.who.length ae2, .slice ae3 s.seals.length ae4] 25 (0, 0)) := by rw [← hW]; exact heap_alloc_new _ _
  have HBW0 := Lib.hid hbW
  have HLT0 := Lib.hid (lt_of_block g0)
  have HSB0 := Lib.hid g0
  have HWS := Lib.hid (fun wr (h : Below w.heap.size w wr) => HW.out.below h)
  have HSS := Lib.hid (fun wr (h : Below w.heap.size w wr) => HS.out.below h)
  obtain ⟨c0, c1, c2, c3, c4, _, _⟩ := stp_cells g0
  clear hbW g0
  obtain ⟨x1, e1, hq1⟩ := signF_pair sealF s at_ a k
  obtain ⟨y1, e2, hq2⟩ := signF_pair sealF s at_ b l
  go_enter Tryd.func3, Tryd.ntmps3
  go_wp2_with fail
  have hsg := signStp_any s at_ a k (.slice ae1 s.who.length ae2) (.slice ae3 s.seals.length ae4) W0 (HWS.out _ HBW0.out) (HSS.out _ HBW0.out) (by have := HKK.out; omega) (HT.out.below HBW0.out)
  rw [hq1] at hsg
  (with_reducible refine hsg.mono ?_)
  rintro e w1 ⟨uw, us, rfl, how, hos, hb⟩
  clear hsg
  obtain ⟨u1, u2, rfl⟩ := rd_form (rdI_owns how)
  obtain ⟨u3, u4, rfl⟩ := rd_form (rdS_owns hos)
  have HLw1 := Lib.hid hb
  have HBw1 := Lib.hid (HBW0.out.trans (hb.mono HBW0.out.size))
  have HOWw1 := Lib.hid how
  have HOSw1 := Lib.hid hos
  clear how hos hb
  clear c0 c1 c2 c3 c4
  go_wp2_with (refine wpList_store_blk (by rfl) 25 (.tmp 13) (.tmp 25) rfl w1.heap.size #[.string x1.ref, .string x1.old, .string x1.new, .slice u1 x1.who.length u2, .slice u3 x1.seals.length u4] rfl rfl (old := _) (heap_alloc_new _ _) (by kernel_rfl) rfl (by simp [Value.oneCell']) ?_; intro wa hgz huz; have HZ1 := Lib.hid (below_upd ((Below.refl w1.heap.size w1).alloc (Nat.le_refl _) _) huz (Nat.le_refl _) (by simp)); have HX := Lib.hid (StpOwn.mk hgz (owns_below HOWw1.out HZ1.out) (owns_below HOSw1.out HZ1.out)); have HBwa := Lib.hid (HBw1.out.trans (HZ1.out.mono HBw1.out.size)); have HSB := Lib.hid (blk_below HSB0.out (HLw1.out.trans (HZ1.out.mono HLw1.out.size))); obtain ⟨c0, c1, c2, c3, c4, _, _⟩ := stp_cells HSB.out; clear hgz huz)
  have hsg := signStp_any s at_ b l (.slice ae1 s.who.length ae2) (.slice ae3 s.seals.length ae4) wa (HWS.out _ HBwa.out) (HSS.out _ HBwa.out) (by have := HKK.out; omega) (HT.out.below HBwa.out)
  rw [hq2] at hsg
  (with_reducible refine hsg.mono ?_)
  rintro e w2 ⟨uw, us, rfl, how, hos, hb⟩
  clear hsg
  obtain ⟨v1, v2, rfl⟩ := rd_form (rdI_owns how)
  obtain ⟨v3, v4, rfl⟩ := rd_form (rdS_owns hos)
  have HLw2 := Lib.hid hb
  have HBw2 := Lib.hid (HBwa.out.trans (hb.mono HBwa.out.size))
  have HOWw2 := Lib.hid how
  have HOSw2 := Lib.hid hos
  clear how hos hb
  have HSB2 := Lib.hid (blk_below HSB.out HLw2.out)
  have HX2 := Lib.hid (HX.out.below HLw2.out)
  clear c0 c1 c2 c3 c4 HSB HX HSB0
  have HN1 := Lib.hid (show w.heap.size < w1.heap.size from Nat.lt_of_lt_of_le HLT0.out HLw1.out.size)
  have HN2 := Lib.hid (show w1.heap.size < w2.heap.size from lt_of_block HX2.out.blk)
  by_cases hgood : e1 = 0 ∧ e2 = 0 ∧ a ≠ b
  · obtain ⟨rfl, rfl, hab⟩ := hgood
    have nab : (a == b) = false := beq_eq_false_iff_ne.2 hab
    have h1 : (signF sealF s at_ a k).2 = 0 := by rw [hq1]
    have h2 : (signF sealF s at_ b l).2 = 0 := by rw [hq2]
    obtain ⟨j1, j2, j3, j4⟩ := sign_order sealF sealF_32 h1 h2 hab
    rw [hq1] at j1 j2 j3 j4
    rw [hq2] at j2
    obtain ⟨x2, ex, hq3⟩ := signF_pair sealF x1 at_ b l
    simp only [hq3] at j1 j2 j3 j4
    subst j1
    have hq4 := j2
    obtain ⟨x3, ey, hq5⟩ := signF_pair sealF x2 at_ a k
    rw [hq5] at j3
    simp only at j3
    subst j3
    have HLEN := Lib.hid j4
    have HS8 := Lib.hid (show s.who.length ≤ 8 by obtain ⟨_, _, _, P, hP, hs, _⟩ := sign_inv sealF h1; rw [hs]; simpa [stpOf] using hP.len)
    have hsub : wrap64 ((x2.who.length : Int) - (s.who.length : Int)) = 2 := by rw [IntWalk.wrap64_in _ (by have := HLEN.out; have := HS8.out; omega)]; have := HLEN.out; omega
    clear h1 h2 hab j2 j4 hq1 hq2
    go_wp2_with (refine wpList_store_blk (by rfl) 25 (.tmp 15) (.tmp 33) rfl w2.heap.size #[.string y1.ref, .string y1.old, .string y1.new, .slice v1 y1.who.length v2, .slice v3 y1.seals.length v4] rfl rfl (old := _) (heap_alloc_new _ _) (by kernel_rfl) rfl (by simp [Value.oneCell']) ?_; intro wb hgz huz; have HZ2 := Lib.hid (below_upd ((Below.refl w2.heap.size w2).alloc (Nat.le_refl _) _) huz (Nat.le_refl _) (by simp)); have HY := Lib.hid (StpOwn.mk hgz (owns_below HOWw2.out HZ2.out) (owns_below HOSw2.out HZ2.out)); have HBwb := Lib.hid (HBw2.out.trans (HZ2.out.mono HBw2.out.size)); have HSBb := Lib.hid (blk_below HSB2.out HZ2.out); have HXb := Lib.hid (HX2.out.below HZ2.out); obtain ⟨c0, c1, c2, c3, c4, _, _⟩ := stp_cells HXb.out.blk; clear hgz huz)
    have hsg := signStp_any x1 at_ b l (.slice u1 x1.who.length u2) (.slice u3 x1.seals.length u4) wb (rdI_owns HXb.out.ow) (rdS_owns HXb.out.os) (by have := HKK.out; omega) (HT.out.below HBwb.out)
    rw [hq3] at hsg
    (with_reducible refine hsg.mono ?_)
    rintro e w3 ⟨uw, us, rfl, how, hos, hb⟩
    clear hsg
    obtain ⟨p1, p2, rfl⟩ := rd_form (rdI_owns how)
    obtain ⟨p3, p4, rfl⟩ := rd_form (rdS_owns hos)
    have HLw3 := Lib.hid hb
    have HBw3 := Lib.hid (HBwb.out.trans (hb.mono HBwb.out.size))
    have HOWw3 := Lib.hid how
    have HOSw3 := Lib.hid hos
    clear how hos hb
    have HX3 := Lib.hid (HXb.out.below HLw3.out)
    have HY3 := Lib.hid (HY.out.below HLw3.out)
    have HSB3 := Lib.hid (blk_below HSBb.out HLw3.out)
    clear c0 c1 c2 c3 c4
    go_wp2_with (refine wpList_store_blk (by rfl) 25 (.tmp 13) (.tmp 53) rfl w1.heap.size #[.string x2.ref, .string x2.old, .string x2.new, .slice p1 x2.who.length p2, .slice p3 x2.seals.length p4] rfl rfl (old := _) HX3.out.blk (by kernel_rfl) rfl (by simp [Value.oneCell']) ?_; intro wc hgz huz; have HBwc := Lib.hid (below_upd HBw3.out huz (by have := HN1.out; omega) HBw3.out.size); have HX4 := Lib.hid (StpOwn.mk hgz (own_store HOWw3.out huz HX3.out.blk (by decide)) (own_store HOSw3.out huz HX3.out.blk (by decide))); have HY4 := Lib.hid (HY3.out.upd huz HX3.out.blk (by have := HN2.out; omega)); have HSB4 := Lib.hid (blk_upd HSB3.out huz (by have := HN1.out; omega)); obtain ⟨c0, c1, c2, c3, c4, _, _⟩ := stp_cells HY4.out.blk; clear hgz huz)
    have hsg := signStp_any y1 at_ a k (.slice v1 y1.who.length v2) (.slice v3 y1.seals.length v4) wc (rdI_owns HY4.out.ow) (rdS_owns HY4.out.os) (by have := HKK.out; omega) (HT.out.below HBwc.out)
    rw [hq4] at hsg
    (with_reducible refine hsg.mono ?_)
    rintro e w4 ⟨uw, us, rfl, how, hos, hb⟩
    clear hsg
    obtain ⟨q1, q2, rfl⟩ := rd_form (rdI_owns how)
    obtain ⟨q3, q4, rfl⟩ := rd_form (rdS_owns hos)
    have HLw4 := Lib.hid hb
    have HBw4 := Lib.hid (HBwc.out.trans (hb.mono HBwc.out.size))
    have HOWw4 := Lib.hid how
    have HOSw4 := Lib.hid hos
    clear how hos hb
    have HX5 := Lib.hid (HX4.out.below HLw4.out)
    have HY5 := Lib.hid (HY4.out.below HLw4.out)
    have HSB5 := Lib.hid (blk_below HSB4.out HLw4.out)
    clear c0 c1 c2 c3 c4
    go_wp2_with (refine wpList_store_blk (by rfl) 25 (.tmp 15) (.tmp 61) rfl w2.heap.size #[.string x2.ref, .string x2.old, .string x2.new, .slice q1 x2.who.length q2, .slice q3 x2.seals.length q4] rfl rfl (old := _) HY5.out.blk (by kernel_rfl) rfl (by simp [Value.oneCell']) ?_; intro wd hgz huz; have HBwd := Lib.hid (below_upd HBw4.out huz (by have := HN1.out; have := HN2.out; omega) HBw4.out.size); have HY6 := Lib.hid (StpOwn.mk hgz (own_store HOWw4.out huz HY5.out.blk (by decide)) (own_store HOSw4.out huz HY5.out.blk (by decide))); have HX6 := Lib.hid (HX5.out.upd huz HY5.out.blk (by have := HN2.out; omega)); have HSB6 := Lib.hid (blk_upd HSB5.out huz (by have := HN1.out; have := HN2.out; omega)); obtain ⟨c0, c1, c2, c3, c4, _, _⟩ := stp_cells HX6.out.blk; clear hgz huz)
    have hsg := signStp_any x2 at_ a k (.slice p1 x2.who.length p2) (.slice p3 x2.seals.length p4) wd (rdI_owns HX6.out.ow) (rdS_owns HX6.out.os) (by have := HKK.out; omega) (HT.out.below HBwd.out)
    rw [hq5] at hsg
    (with_reducible refine hsg.mono ?_)
    rintro e w5 ⟨uw, us, rfl, how, hos, hb⟩
    clear hsg
    obtain ⟨r1, r2, rfl⟩ := rd_form (rdI_owns how)
    obtain ⟨r3, r4, rfl⟩ := rd_form (rdS_owns hos)
    have HLw5 := Lib.hid hb
    have HBw5 := Lib.hid (HBwd.out.trans (hb.mono HBwd.out.size))
    have HOWw5 := Lib.hid how
    have HOSw5 := Lib.hid hos
    clear how hos hb
    have HX7 := Lib.hid (HX6.out.below HLw5.out)
    have HY7 := Lib.hid (HY6.out.below HLw5.out)
    have HSB7 := Lib.hid (blk_below HSB6.out HLw5.out)
    clear c0 c1 c2 c3 c4
    go_wp2_with (refine wpList_store_blk (by rfl) 25 (.tmp 17) (.tmp 69) rfl w5.heap.size #[.string x3.ref, .string x3.old, .string x3.new, .slice r1 x3.who.length r2, .slice r3 x3.seals.length r4] rfl rfl (old := _) (heap_alloc_new _ _) (by kernel_rfl) rfl (by simp [Value.oneCell']) ?_; intro we hgz huz; have HZ5 := Lib.hid (below_upd ((Below.refl w5.heap.size w5).alloc (Nat.le_refl _) _) huz (Nat.le_refl _) (by simp)); have HBwe := Lib.hid (HBw5.out.trans (HZ5.out.mono HBw5.out.size)); have HSB8 := Lib.hid (blk_below HSB7.out HZ5.out); have HX8 := Lib.hid (HX7.out.below HZ5.out); have HY8 := Lib.hid (HY7.out.below HZ5.out); obtain ⟨c0, c1, c2, c3, c4, _, _⟩ := stp_cells HX8.out.blk; obtain ⟨d0, d1, d2, d3, d4, _, _⟩ := stp_cells HY8.out.blk; clear hgz huz)
    (with_reducible refine (sameStep_any x2 x2 _ _ _ _ _ (rdI_owns HX8.out.ow) (rdS_owns HX8.out.os) (rdI_owns HY8.out.ow) (rdS_owns HY8.out.os) true (by simp)).mono ?_)
    rintro e w6 ⟨rfl, hb⟩
    have HB6 := Lib.hid (HBwe.out.trans (hb.mono HBwe.out.size))
    have HX9 := Lib.hid (HX8.out.below hb)
    have HSB9 := Lib.hid (blk_below HSB8.out hb)
    clear hb c0 c1 c2 c3 c4 d0 d1 d2 d3 d4
    obtain ⟨c0, c1, c2, c3, c4, _, _⟩ := stp_cells HX9.out.blk
    obtain ⟨d0, d1, d2, d3, d4, _, _⟩ := stp_cells HSB9.out
    have hl1 := HLEN.out
    skip
    go_wp2_with fail
    skip
    (with_reducible refine (steps_any _ (HT.out.below HB6.out)).mono ?_)
    rintro e w9 ⟨rfl, hb⟩
    have HB9 := Lib.hid (HB6.out.trans (hb.mono HB6.out.size))
    clear hb c0 c1 c2 c3 c4 d0 d1 d2 d3 d4
    go_wp2_with fail
    go_ret
    exact ⟨rfl, HB9.out⟩
  · clear hq1 hq2
    by_cases h1 : e1 = 0
    · subst h1
      by_cases h2 : e2 = 0
      · subst h2
        obtain rfl : a = b := Classical.not_not.1 (fun h => hgood ⟨rfl, rfl, h⟩)
        clear hgood
        go_wp2_with (refine wpList_store_blk (by rfl) 25 (.tmp 15) (.tmp 33) rfl w2.heap.size #[.string y1.ref, .string y1.old, .string y1.new, .slice v1 y1.who.length v2, .slice v3 y1.seals.length v4] rfl rfl (old := _) (heap_alloc_new _ _) (by kernel_rfl) rfl (by simp [Value.oneCell']) ?_; intro wb hgz huz; have HZ2 := Lib.hid (below_upd ((Below.refl w2.heap.size w2).alloc (Nat.le_refl _) _) huz (Nat.le_refl _) (by simp)); have HY := Lib.hid (StpOwn.mk hgz (owns_below HOWw2.out HZ2.out) (owns_below HOSw2.out HZ2.out)); have HBwb := Lib.hid (HBw2.out.trans (HZ2.out.mono HBw2.out.size)); have HSBb := Lib.hid (blk_below HSB2.out HZ2.out); have HXb := Lib.hid (HX2.out.below HZ2.out); obtain ⟨c0, c1, c2, c3, c4, _, _⟩ := stp_cells HXb.out.blk; clear hgz huz)
        skip
        (with_reducible refine (steps_any _ (HT.out.below HBwb.out)).mono ?_)
        rintro e w9 ⟨rfl, hb⟩
        have HB9 := Lib.hid (HBwb.out.trans (hb.mono HBwb.out.size))
        clear hb c0 c1 c2 c3 c4
        go_wp2_with fail
        go_ret
        exact ⟨rfl, HB9.out⟩
      · have n1 : (e2 == 0) = false := beq_eq_false_iff_ne.2 h2
        have n2 : (e2 != 0) = true := by rw [bne, n1]; rfl
        clear hgood h2
        go_wp2_with (refine wpList_store_blk (by rfl) 25 (.tmp 15) (.tmp 33) rfl w2.heap.size #[.string y1.ref, .string y1.old, .string y1.new, .slice v1 y1.who.length v2, .slice v3 y1.seals.length v4] rfl rfl (old := _) (heap_alloc_new _ _) (by kernel_rfl) rfl (by simp [Value.oneCell']) ?_; intro wb hgz huz; have HZ2 := Lib.hid (below_upd ((Below.refl w2.heap.size w2).alloc (Nat.le_refl _) _) huz (Nat.le_refl _) (by simp)); have HY := Lib.hid (StpOwn.mk hgz (owns_below HOWw2.out HZ2.out) (owns_below HOSw2.out HZ2.out)); have HBwb := Lib.hid (HBw2.out.trans (HZ2.out.mono HBw2.out.size)); have HSBb := Lib.hid (blk_below HSB2.out HZ2.out); have HXb := Lib.hid (HX2.out.below HZ2.out); obtain ⟨c0, c1, c2, c3, c4, _, _⟩ := stp_cells HXb.out.blk; clear hgz huz)
        skip
        (with_reducible refine (steps_any _ (HT.out.below HBwb.out)).mono ?_)
        rintro e w9 ⟨rfl, hb⟩
        have HB9 := Lib.hid (HBwb.out.trans (hb.mono HBwb.out.size))
        clear hb c0 c1 c2 c3 c4
        go_wp2_with fail
        go_ret
        exact ⟨rfl, HB9.out⟩
    · have n1 : (e1 == 0) = false := beq_eq_false_iff_ne.2 h1
      have n2 : (e1 != 0) = true := by rw [bne, n1]; rfl
      clear hgood h1
      go_wp2_with (refine wpList_store_blk (by rfl) 25 (.tmp 15) (.tmp 33) rfl w2.heap.size #[.string y1.ref, .string y1.old, .string y1.new, .slice v1 y1.who.length v2, .slice v3 y1.seals.length v4] rfl rfl (old := _) (heap_alloc_new _ _) (by kernel_rfl) rfl (by simp [Value.oneCell']) ?_; intro wb hgz huz; have HZ2 := Lib.hid (below_upd ((Below.refl w2.heap.size w2).alloc (Nat.le_refl _) _) huz (Nat.le_refl _) (by simp)); have HY := Lib.hid (StpOwn.mk hgz (owns_below HOWw2.out HZ2.out) (owns_below HOSw2.out HZ2.out)); have HBwb := Lib.hid (HBw2.out.trans (HZ2.out.mono HBw2.out.size)); have HSBb := Lib.hid (blk_below HSB2.out HZ2.out); have HXb := Lib.hid (HX2.out.below HZ2.out); obtain ⟨c0, c1, c2, c3, c4, _, _⟩ := stp_cells HXb.out.blk; clear hgz huz)
      skip
      (with_reducible refine (steps_any _ (HT.out.below HBwb.out)).mono ?_)
      rintro e w9 ⟨rfl, hb⟩
      have HB9 := Lib.hid (HBwb.out.trans (hb.mono HBwb.out.size))
      clear hb c0 c1 c2 c3 c4
      go_wp2_with fail
      go_ret
      exact ⟨rfl, HB9.out⟩
end Go.Proofs.YtinhjnbgblieeaaDoor
