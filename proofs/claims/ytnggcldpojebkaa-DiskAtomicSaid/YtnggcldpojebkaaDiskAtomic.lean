/- DiskAtomic: the walk. -/
import Derived.Test.YtnggcldpojebkaaAtomicLaw
import Derived.Test.YtnggcldpojebkaaPick
import Derived.Deep.RegionWith
namespace Go.Proofs.Ytnggcldpojebkaa
open Go.RowKit
set_option linter.unusedVariables false
set_option linter.unusedSimpArgs false

theorem rd_form_map {w : World} {v : Value} {l : List Fil} {g : Fil → Fil} (h : rdF w v (l.map g)) : ∃ a p, v = .slice a l.length p := by
  have := rd_form h
  rwa [List.length_map] at this
theorem rd_map {w : World} {v : Value} {l : List Fil} (h : rdF w v l) : rdF w v l := h
theorem below_any {B : Nat} {a w : World} (h : Below B a w) : Below B a w := h
set_option maxRecDepth 100000 in
set_option maxHeartbeats 3200000 in
theorem diskAtomic_walk {w : World} (l : List Fil) (f : Int) (v : Value) (hr : rdF w v l) (hfu : -9223372036854775808 ≤ f ∧ f ≤ 9223372036854775807) (name : ByteArray) (hna : name.size ≤ 140737488351232) (s : ByteArray) (hs : s.size ≤ 140737488351232) (fuse : Int) (hfs : -9223372036854775808 ≤ fuse ∧ fuse ≤ 9223372036854775807) (keep : Int) (hke : -9223372036854775808 ≤ keep ∧ keep ≤ 9223372036854775807) :
    Calls Try.prog 8 #[.agg #[v, .int .i64 f], .string name, .string s, .int .i64 fuse, .int .i64 keep] w fun e w' => e = .returned (.bool true) ∧ Below w.heap.size w w' := by
  obtain ⟨a0, p0, hv⟩ := rd_form hr
  subst hv
  obtain ⟨W, hW⟩ : ∃ W, w.alloc (.cells #[.slice a0 l.length p0, .int .i64 f] 30) = W := ⟨_, rfl⟩
  have hbW : Below w.heap.size w W := by rw [← hW]; exact (Below.refl _ _).alloc (Nat.le_refl _) _
  have g0 : W.heap[w.heap.size]? = some (.cells #[.slice a0 l.length p0, .int .i64 f] 30 (0, 0)) := by rw [← hW]; exact heap_alloc_new _ _
  have HBW := Lib.hid hbW
  have HG := Lib.hid (fun w' (h : Below W.heap.size W w') => blk_below g0 h)
  have HR := Lib.hid (hr.below hbW)
  have HB0 := Lib.hid (Below.refl W.heap.size W)
  obtain ⟨c0, c1, cz0, cz1⟩ := cell_of_two g0
  clear hr hbW g0
  have HGD := Lib.hid (goodD_any l _ f W HR.out)
  by_cases hgood : GoodL namedD l
  · rw [goodB_true hgood] at HGD
    have HGOOD := Lib.hid hgood
    clear hgood hna hs hfu
    go_enter Try.func8, Try.ntmps8
    go_wp2_with fail
    (with_reducible refine (HGD.out).mono ?_)
    rintro e w1 ⟨rfl, hb⟩
    have HB1 := Lib.hid (HB0.out.trans (hb.mono HB0.out.size))
    clear hb
    go_wp2_with fail
    (with_reducible refine (disks_any _).mono ?_)
    rintro e w2 ⟨rfl, hb⟩
    have HB2 := Lib.hid (HB1.out.trans (hb.mono HB1.out.size))
    clear hb
    clear c0 c1 cz0 cz1
    obtain ⟨c0, c1, cz0, cz1⟩ := cell_of_two (HG.out _ HB2.out)
    obtain ⟨X, hX⟩ : ∃ X, w2.setCell ⟨w.heap.size, 1, none⟩ (.int .i64 (-1)) = X := ⟨_, rfl⟩
    have gX : X.heap[w.heap.size]? = some (.cells #[.slice a0 l.length p0, .int .i64 (-1)] 30 (0, 0)) := by rw [← hX]; exact two_setCell1 (HG.out _ HB2.out)
    have HWX := Lib.hid (show Below w.heap.size w X by rw [← hX]; exact (HBW.out.trans ((HB2.out).mono HBW.out.size)).setCell (p := ⟨w.heap.size, 1, none⟩) (Nat.le_refl _) _)
    have HRX := Lib.hid (show rdF X (.slice a0 l.length p0) l by rw [← hX]; exact rdF_upd (HR.out.below (HB2.out)) ((Upd.refl (fun i => i = w.heap.size) _).setCell (a := ⟨w.heap.size, 1, none⟩) (.inl rfl) _) (no_str (HG.out _ HB2.out)))
    have HGX := Lib.hid (fun w' (h : Below X.heap.size X w') => blk_below gX h)
    obtain ⟨x0, x1, xz0, xz1⟩ := cell_of_two gX
    have HBr := Lib.hid (Below.refl X.heap.size X)
    have hcr := crash_any l (-1) _ X HRX.out 0 (by omega)
    rw [crashD_2 (d := ⟨l, -1⟩) HGOOD.out (by omega)] at hcr
    have HCR := Lib.hid hcr
    clear hcr hW HGD
    go_wp2_with fail
    (with_reducible refine HCR.out.mono ?_)
    rintro e w3 ⟨v', rfl, hrd, hb⟩
    obtain ⟨cl, hcl⟩ : ∃ cl, cl = l.map (crashFil 0) := ⟨_, rfl⟩
    have hrd' : rdF w3 v' cl := by rw [hcl]; exact hrd
    obtain ⟨a1, p1, rfl⟩ : ∃ a p, v' = .slice a l.length p := by
      have h := rd_form hrd'
      rw [hcl, List.length_map] at h
      exact h
    have hgx := HGX.out _ hb
    obtain ⟨Y, hY⟩ : ∃ Y, (w3.setCell ⟨w.heap.size, 0, none⟩ (.slice a1 l.length p1)).setCell ⟨w.heap.size, 1, none⟩ (.int .i64 (-1)) = Y := ⟨_, rfl⟩
    have gY : Y.heap[w.heap.size]? = some (.cells #[.slice a1 l.length p1, .int .i64 (-1)] 30 (0, 0)) := by rw [← hY]; exact two_setCell1 (two_setCell0 hgx)
    have HRY := Lib.hid (show rdF Y (.slice a1 l.length p1) cl by rw [← hY]; exact rdF_upd hrd' (set2_updF _ _) (no_str hgx))
    have HWY := Lib.hid (show Below w.heap.size w Y by rw [← hY]; exact set2_below (HWX.out.trans (hb.mono HWX.out.size)) (Nat.le_refl _) _ _)
    have HGY := Lib.hid (fun w' (h : Below Y.heap.size Y w') => blk_below gY h)
    clear c0 c1 cz0 cz1
    clear x0 x1 xz0 xz1
    obtain ⟨c0, c1, cz0, cz1⟩ := cell_of_two hgx
    obtain ⟨x0, x1, xz0, xz1⟩ := cell_of_two gY
    have HCL := Lib.hid hcl
    have HRD := Lib.hid (read_any cl (-1) _ Y HRY.out name)
    obtain ⟨⟨was, e4⟩, hq4⟩ : ∃ q, q = readD namedD ⟨cl, -1⟩ name := ⟨_, rfl⟩
    rw [← hq4] at HRD
    have HQ4 := Lib.hid hq4
    clear hb hrd hrd' hgx hX gX gY HCR hq4 HGX HRX HWX HBr
    go_wp2_with fail
    (with_reducible refine HRD.out.mono ?_)
    rintro e w4 ⟨rfl, hb⟩
    have HB4 := Lib.hid hb
    clear c0 c1 cz0 cz1
    clear x0 x1 xz0 xz1
    clear hb hY HRD
    obtain ⟨c0, c1, cz0, cz1⟩ := cell_of_two (HGY.out _ HB4.out)
    obtain ⟨p, hp⟩ : ∃ p, p = fuse % 6 := ⟨_, rfl⟩
    have HPK := Lib.hid (pick6 fuse w4 hfs)
    rw [← hp] at HPK
    have HPR := Lib.hid (show -9223372036854775808 ≤ p ∧ p ≤ 9223372036854775807 by omega)
    clear hfs hp
    obtain ⟨Z, hZ⟩ : ∃ Z, w4.setCell ⟨w.heap.size, 1, none⟩ (.int .i64 p) = Z := ⟨_, rfl⟩
    have gZ : Z.heap[w.heap.size]? = some (.cells #[.slice a1 l.length p1, .int .i64 p] 30 (0, 0)) := by rw [← hZ]; exact two_setCell1 (HGY.out _ HB4.out)
    have HRZ := Lib.hid (show rdF Z (.slice a1 l.length p1) cl by rw [← hZ]; exact rdF_upd (HRY.out.below HB4.out) ((Upd.refl (fun i => i = w.heap.size) _).setCell (a := ⟨w.heap.size, 1, none⟩) (.inl rfl) _) (no_str (HGY.out _ HB4.out)))
    have HWZ := Lib.hid (show Below w.heap.size w Z by rw [← hZ]; exact (HWY.out.trans (HB4.out.mono HWY.out.size)).setCell (p := ⟨w.heap.size, 1, none⟩) (Nat.le_refl _) _)
    obtain ⟨x0, x1, xz0, xz1⟩ := cell_of_two gZ
    obtain ⟨⟨⟨l5, f5⟩, e5⟩, hq5⟩ : ∃ q, q = saveD namedD ⟨cl, p⟩ name s := ⟨_, rfl⟩
    have HSV := Lib.hid (save_any cl p HPR.out _ Z HRZ.out name s)
    rw [← hq5] at HSV
    obtain ⟨kp, hkp⟩ : ∃ kp, kp = keep % 1000 := ⟨_, rfl⟩
    have HPK2 := Lib.hid (fun w' => pick1000 keep w' hke)
    rw [← hkp] at HPK2
    have hk0 : 0 ≤ kp ∧ kp ≤ 1000 := by omega
    rw [HCL.out] at hq5
    have HLAW := Lib.hid (atomic_law kp.toNat HGOOD.out hq5)
    have HK0 := Lib.hid hk0
    clear gZ hke hq5 hkp hk0
    go_wp2_with fail
    (with_reducible refine HPK.out.mono ?_)
    rintro e w5 ⟨rfl, rfl⟩
    go_wp2_with fail
    (with_reducible refine HSV.out.mono ?_)
    rintro e w5 ⟨v', rfl, hrd, hb⟩
    obtain ⟨a5, p5, rfl⟩ : ∃ a p, v' = .slice a l5.length p := rd_form hrd
    have HB5 := Lib.hid (HWZ.out.trans (hb.mono HWZ.out.size))
    have HR5 := Lib.hid (show rdF w5 (.slice a5 l5.length p5) l5 from hrd)
    clear c0 c1 cz0 cz1
    clear x0 x1 xz0 xz1
    clear hb hrd hZ HPK HSV
    obtain ⟨wA, hA⟩ : ∃ x, w5.alloc (.cells #[.slice a5 l5.length p5, .int .i64 f5] 30) = x := ⟨_, rfl⟩
    have gA : wA.heap[w5.heap.size]? = some (.cells #[.slice a5 l5.length p5, .int .i64 f5] 30 (0, 0)) := by rw [← hA]; exact heap_alloc_new _ _
    have HBA := Lib.hid (show Below w.heap.size w wA by rw [← hA]; exact HB5.out.alloc HB5.out.size _)
    have HRA := Lib.hid (show rdF wA (.slice a5 l5.length p5) l5 by rw [← hA]; exact HR5.out.below ((Below.refl _ _).alloc (Nat.le_refl _) _))
    have HGA := Lib.hid (fun w' (h : Below wA.heap.size wA w') => blk_below gA h)
    obtain ⟨c0, c1, cz0, cz1⟩ := cell_of_two gA
    have HCRA := Lib.hid (fun w' (h : Below wA.heap.size wA w') => crash_any l5 f5 _ w' (HRA.out.below h) kp (by have := HK0.out; omega))
    rw [crashD_2 (d := ⟨l5, f5⟩) HLAW.out.1 (by have := HK0.out; omega)] at HCRA
    have hal : Below wA.heap.size wA (wA.alloc (.cells #[.slice none 0 0, .int .i64 0] 30)) := (Below.refl _ wA).alloc (Nat.le_refl _) _
    obtain ⟨k0, k1, _, _⟩ := cell_of_two (HGA.out _ hal)
    have HAL := Lib.hid hal
    clear hal gA
    go_wp2_with fail
    clear hA
    go_region_with (first
      | (go_at_call 15; refine (HPK2.out _).mono ?_; rintro e w6 ⟨rfl, rfl⟩)
      | (go_at_call 18; refine (HCRA.out _ ?_).mono ?_; (first | exact (Below.refl _ wA).drew | exact HAL.out.drew); rintro e w6 ⟨v', rfl, hrd, hb⟩; obtain ⟨a6, p6, hv6⟩ := rd_form_map hrd; subst hv6; have HR6 := Lib.hid (rd_map hrd); have HB6 := Lib.hid (below_any hb); (try (have hz6 := blk_below (w := (wA.alloc (.cells #[.slice none 0 0, .int .i64 0] 30)).drew) (heap_alloc_new wA (.cells #[.slice none 0 0, .int .i64 0] 30)) hb; obtain ⟨z0, z1, zz0, zz1⟩ := cell_of_two hz6; have HZ6 := Lib.hid hz6; clear hz6)); clear hrd hb))
    all_goals
      first
        | skip
          obtain ⟨U, hU⟩ : ∃ U, (w6.setCell ⟨wA.heap.size, 0, none⟩ (.slice a6 l5.length p6)).setCell ⟨wA.heap.size, 1, none⟩ (.int .i64 (-1)) = U := ⟨_, rfl⟩
          have gU : U.heap[wA.heap.size]? = some (.cells #[.slice a6 l5.length p6, .int .i64 (-1)] 30 (0, 0)) := by rw [← hU]; exact two_setCell1 (two_setCell0 HZ6.out)
          have HRU := Lib.hid (show rdF U (.slice a6 l5.length p6) (l5.map (crashFil kp.toNat)) by rw [← hU]; exact rdF_upd HR6.out (set2_updF _ _) (no_str HZ6.out))
          have HBU := Lib.hid (show Below w.heap.size w U by rw [← hU]; exact set2_below (HBA.out.trans (Below.mono (HAL.out.drew.trans (HB6.out.mono HAL.out.size)) HBA.out.size)) HBA.out.size _ _)
          have HRDU := Lib.hid (read_any (l5.map (crashFil kp.toNat)) (-1) _ U HRU.out name)
          try clear z0 z1 zz0 zz1
          clear c0 c1 cz0 cz1 k0 k1
          obtain ⟨c0, c1, cz0, cz1⟩ := cell_of_two gU
          clear gU
          by_cases he : e5 = 0
          · rw [HLAW.out.2.1 he] at HRDU
            subst he
            have hbw : (s.toList == s.toList) = true := by simp
            go_wp2_with fail
            (with_reducible refine HRDU.out.mono ?_)
            rintro e w7 ⟨rfl, hb⟩
            have HB7 := Lib.hid (HBU.out.trans (hb.mono HBU.out.size))
            clear hb
            go_wp2_with fail
            go_ret
            exact ⟨rfl, HB7.out⟩
          · rw [HLAW.out.2.2 he, ← HCL.out, ← HQ4.out] at HRDU
            have hn1 : (e5 == 0) = false := beq_eq_false_iff_ne.2 he
            have hbw : (was.toList == was.toList) = true := by simp
            clear he
            go_wp2_with fail
            (with_reducible refine HRDU.out.mono ?_)
            rintro e w7 ⟨rfl, hb⟩
            have HB7 := Lib.hid (HBU.out.trans (hb.mono HBU.out.size))
            clear hb
            go_wp2_with fail
            go_ret
            exact ⟨rfl, HB7.out⟩
        | skip
          obtain ⟨U, hU⟩ : ∃ U, w6.alloc (.cells #[.slice a6 l5.length p6, .int .i64 (-1)] 30) = U := ⟨_, rfl⟩
          have gU : U.heap[w6.heap.size]? = some (.cells #[.slice a6 l5.length p6, .int .i64 (-1)] 30 (0, 0)) := by rw [← hU]; exact heap_alloc_new _ _
          have HRU := Lib.hid (show rdF U (.slice a6 l5.length p6) (l5.map (crashFil kp.toNat)) by rw [← hU]; exact HR6.out.below ((Below.refl _ _).alloc (Nat.le_refl _) _))
          have HBU := Lib.hid (show Below w.heap.size w U by rw [← hU]; exact (HBA.out.trans (Below.mono ((Below.refl _ wA).drew.trans HB6.out) HBA.out.size)).alloc (Nat.le_trans HBA.out.size HB6.out.size) _)
          have HRDU := Lib.hid (read_any (l5.map (crashFil kp.toNat)) (-1) _ U HRU.out name)
          try clear z0 z1 zz0 zz1
          clear c0 c1 cz0 cz1 k0 k1
          obtain ⟨c0, c1, cz0, cz1⟩ := cell_of_two gU
          clear gU
          by_cases he : e5 = 0
          · rw [HLAW.out.2.1 he] at HRDU
            subst he
            have hbw : (s.toList == s.toList) = true := by simp
            go_wp2_with fail
            (with_reducible refine HRDU.out.mono ?_)
            rintro e w7 ⟨rfl, hb⟩
            have HB7 := Lib.hid (HBU.out.trans (hb.mono HBU.out.size))
            clear hb
            go_wp2_with fail
            go_ret
            exact ⟨rfl, HB7.out⟩
          · rw [HLAW.out.2.2 he, ← HCL.out, ← HQ4.out] at HRDU
            have hn1 : (e5 == 0) = false := beq_eq_false_iff_ne.2 he
            have hbw : (was.toList == was.toList) = true := by simp
            clear he
            go_wp2_with fail
            (with_reducible refine HRDU.out.mono ?_)
            rintro e w7 ⟨rfl, hb⟩
            have HB7 := Lib.hid (HBU.out.trans (hb.mono HBU.out.size))
            clear hb
            go_wp2_with fail
            go_ret
            exact ⟨rfl, HB7.out⟩
  · rw [goodB_false hgood] at HGD
    clear hgood hna hs hfu hfs hke
    go_enter Try.func8, Try.ntmps8
    go_wp2_with fail
    (with_reducible refine (HGD.out).mono ?_)
    rintro e w1 ⟨rfl, hb⟩
    have HB1 := Lib.hid (HB0.out.trans (hb.mono HB0.out.size))
    clear hb
    go_wp2_with fail
    (with_reducible refine (disks_any _).mono ?_)
    rintro e w2 ⟨rfl, hb⟩
    have HB2 := Lib.hid (HB1.out.trans (hb.mono HB1.out.size))
    clear hb
    go_wp2_with fail
    go_ret
    exact ⟨rfl, HBW.out.trans (HB2.out.mono HBW.out.size)⟩
end Go.Proofs.Ytnggcldpojebkaa
