/- DiskOthers: the walk and its law. -/
import Derived.Test.YtnggcldpojebkaaDisk10
import Derived.Test.YtnggcldpojebkaaDiskMoved
import Derived.Test.YtnggcldpojebkaaPick
namespace Go.Proofs.Ytnggcldpojebkaa
open Go.RowKit
set_option linter.unusedVariables false
set_option linter.unusedSimpArgs false

theorem read_other {d d' : Dsk} {n : ByteArray} (hg : GoodL namedD d.files ↔ GoodL namedD d'.files) (h : fget n d'.files = fget n d.files) : readD namedD d' n = readD namedD d n := by
  unfold readD
  by_cases hx : GoodL namedD d.files
  · rw [if_neg (fun k => k (hg.1 hx)), if_neg (fun k => k hx), h]
  · rw [if_pos (fun k => hx (hg.2 k)), if_pos hx]
theorem save_bad {d : Dsk} {name s : ByteArray} (h : ¬ GoodL namedD d.files) : saveD namedD d name s = (d, 3) := save_1 h
theorem others_save {d : Dsk} {name s other : ByteArray} (h1 : other ≠ name) (h2 : other ≠ name ++ dotNew) : readD namedD (saveD namedD d name s).1 other = readD namedD d other := by
  refine read_other ⟨fun h => save_inv h, fun h => ?_⟩ (save_other h1 h2)
  by_cases hg : GoodL namedD d.files
  · exact hg
  · rw [save_1 hg] at h; exact h
theorem others_remove {d : Dsk} {name other : ByteArray} (h1 : other ≠ name) : readD namedD (removeD namedD d name).1 other = readD namedD d other := by
  refine read_other ⟨fun h => step_inv (fun l => remove_inv) h, fun h => ?_⟩ (step_other (fun l => remove_other h1))
  by_cases hg : GoodL namedD d.files
  · exact hg
  · have : removeD namedD d name = (d, 3) := step_1 hg
    rw [this] at h; exact h
theorem dotnew_size (s : ByteArray) : (s ++ dotNew).size = s.size + 4 := by rw [ByteArray.size_append]; rfl
set_option maxRecDepth 100000 in
set_option maxHeartbeats 3200000 in
theorem diskOthers_walk {w : World} (l : List Fil) (f : Int) (v : Value) (hr : rdF w v l) (hfu : -9223372036854775808 ≤ f ∧ f ≤ 9223372036854775807) (name : ByteArray) (hna : name.size ≤ 140737488351232) (other : ByteArray) (hot : other.size ≤ 140737488351232) (s : ByteArray) (hs : s.size ≤ 140737488351232) (fuse : Int) (hfs : -9223372036854775808 ≤ fuse ∧ fuse ≤ 9223372036854775807) :
    Calls Try.prog 7 #[.agg #[v, .int .i64 f], .string name, .string other, .string s, .int .i64 fuse] w fun e w' => e = .returned (.bool true) ∧ Below w.heap.size w w' := by
  obtain ⟨a0, p0, hv⟩ := rd_form hr
  subst hv
  obtain ⟨W, hW⟩ : ∃ W, w.alloc (.cells #[.slice a0 l.length p0, .int .i64 f] 30) = W := ⟨_, rfl⟩
  have hbW : Below w.heap.size w W := by rw [← hW]; exact (Below.refl _ _).alloc (Nat.le_refl _) _
  have g0 : W.heap[w.heap.size]? = some (.cells #[.slice a0 l.length p0, .int .i64 f] 30 (0, 0)) := by rw [← hW]; exact heap_alloc_new _ _
  have HBW := Lib.hid hbW
  have HG := Lib.hid (fun w' (h : Below W.heap.size W w') => blk_below g0 h)
  have HR := Lib.hid (hr.below hbW)
  have HB0 := Lib.hid (Below.refl W.heap.size W)
  obtain ⟨c0, c1, cz0, cz1⟩ := cell_of_two g0
  clear hr hbW g0
  have hbs : (other.toList == other.toList) = true := by simp
  by_cases h1 : name = other
  · have hb1 : (name.toList == other.toList) = true := by rw [beqD]; exact decide_eq_true h1
    clear h1 hna hot hs
    go_enter Try.func7, Try.ntmps7
    go_wp2_with fail
    (with_reducible refine (disks_any _).mono ?_)
    rintro e w1 ⟨rfl, hb⟩
    have HB1 := Lib.hid (HB0.out.trans (hb.mono HB0.out.size))
    clear hb
    go_wp2_with fail
    go_ret
    exact ⟨rfl, HBW.out.trans (HB1.out.mono HBW.out.size)⟩
  · have hb1 : (name.toList == other.toList) = false := by rw [beqD]; exact decide_eq_false h1
    have hsum : (name.size : Int) + 4 ≤ 9223372036854775807 := by omega
    obtain ⟨nn, hnn⟩ : ∃ nn, name ++ (⟨#[46, 110, 101, 119]⟩ : ByteArray) = nn := ⟨_, rfl⟩
    have HNN := Lib.hid (show name ++ dotNew = nn from hnn)
    by_cases h2 : other = nn
    · have hb2 : (other.toList == nn.toList) = true := by rw [beqD]; exact decide_eq_true h2
      clear h1 h2 hna hot hs
      go_enter Try.func7, Try.ntmps7
      go_wp2_with fail
      (with_reducible refine (disks_any _).mono ?_)
      rintro e w1 ⟨rfl, hb⟩
      have HB1 := Lib.hid (HB0.out.trans (hb.mono HB0.out.size))
      clear hb
      go_wp2_with fail
      go_ret
      exact ⟨rfl, HBW.out.trans (HB1.out.mono HBW.out.size)⟩
    · have hb2 : (other.toList == nn.toList) = false := by rw [beqD]; exact decide_eq_false h2
      have HO1 := Lib.hid (show other ≠ name from fun h => h1 h.symm)
      have HO2 := Lib.hid (show other ≠ name ++ dotNew by rw [HNN.out]; exact h2)
      clear h1 h2 hna hot hs
      go_enter Try.func7, Try.ntmps7
      go_wp2_with fail
      (with_reducible refine (disks_any _).mono ?_)
      rintro e w1 ⟨rfl, hb⟩
      have HB1 := Lib.hid (HB0.out.trans (hb.mono HB0.out.size))
      clear hb
      clear c0 c1 cz0 cz1
      obtain ⟨c0, c1, cz0, cz1⟩ := cell_of_two (HG.out _ HB1.out)
      obtain ⟨p, hp⟩ : ∃ p, p = fuse % 7 := ⟨_, rfl⟩
      have HPK := Lib.hid (pick7 fuse w1 hfs)
      rw [← hp] at HPK
      obtain ⟨F, hF⟩ : ∃ F, F = p - 1 := ⟨_, rfl⟩
      have hpw : IntKind.i64.wrap (p - 1) = F := by rw [IntKind.wrap_i64]; omega
      have HFR := Lib.hid (show -9223372036854775808 ≤ F ∧ F ≤ 9223372036854775807 by omega)
      clear hfs hp hF hsum hfu
      obtain ⟨X, hX⟩ : ∃ X, w1.setCell ⟨w.heap.size, 1, none⟩ (.int .i64 (F)) = X := ⟨_, rfl⟩
      have gX : X.heap[w.heap.size]? = some (.cells #[.slice a0 l.length p0, .int .i64 (F)] 30 (0, 0)) := by rw [← hX]; exact two_setCell1 (HG.out _ HB1.out)
      have HWX := Lib.hid (show Below w.heap.size w X by rw [← hX]; exact (HBW.out.trans ((HB1.out).mono HBW.out.size)).setCell (p := ⟨w.heap.size, 1, none⟩) (Nat.le_refl _) _)
      have HRX := Lib.hid (show rdF X (.slice a0 l.length p0) l by rw [← hX]; exact rdF_upd (HR.out.below (HB1.out)) ((Upd.refl (fun i => i = w.heap.size) _).setCell (a := ⟨w.heap.size, 1, none⟩) (.inl rfl) _) (no_str (HG.out _ HB1.out)))
      have HGX := Lib.hid (fun w' (h : Below X.heap.size X w') => blk_below gX h)
      obtain ⟨x0, x1, xz0, xz1⟩ := cell_of_two gX
      have HBr := Lib.hid (Below.refl X.heap.size X)
      obtain ⟨⟨was, e1⟩, hq1⟩ : ∃ q, q = readD namedD ⟨l, F⟩ other := ⟨_, rfl⟩
      obtain ⟨⟨⟨l3, f3⟩, e3⟩, hq3⟩ : ∃ q, q = saveD namedD ⟨l, F⟩ name s := ⟨_, rfl⟩
      obtain ⟨⟨⟨l4, f4⟩, e4⟩, hq4⟩ : ∃ q, q = removeD namedD ⟨l, F⟩ name := ⟨_, rfl⟩
      have HRD := Lib.hid (read_any l F _ X HRX.out other)
      have HSV := Lib.hid (fun w' (h : Below X.heap.size X w') => save_any l F HFR.out _ w' (HRX.out.below h) name s)
      have HRM := Lib.hid (fun w' (h : Below X.heap.size X w') => remove_any l F HFR.out _ w' (HRX.out.below h) name)
      have HGD := Lib.hid (fun w' (h : Below X.heap.size X w') => goodD_any l _ F w' (HRX.out.below h))
      rw [← hq1] at HRD
      rw [← hq3] at HSV
      rw [← hq4] at HRM
      have hl3 : readD namedD ⟨l3, f3⟩ other = (was, e1) := by
        rw [show (⟨l3, f3⟩ : Dsk) = (saveD namedD ⟨l, F⟩ name s).1 by rw [← hq3]]
        exact (others_save HO1.out HO2.out).trans hq1.symm
      have hl4 : readD namedD ⟨l4, f4⟩ other = (was, e1) := by
        rw [show (⟨l4, f4⟩ : Dsk) = (removeD namedD ⟨l, F⟩ name).1 by rw [← hq4]]
        exact (others_remove HO1.out).trans hq1.symm
      have HL3 := Lib.hid hl3
      have HL4 := Lib.hid hl4
      have HK3 := Lib.hid (show GoodL namedD l → GoodL namedD l3 from fun h => by
        have := save_inv (d := ⟨l, F⟩) (name := name) (s := s) h
        rw [← hq3] at this; exact this)
      have HK4 := Lib.hid (show GoodL namedD l → GoodL namedD l4 from fun h => by
        have := step_inv (d := ⟨l, F⟩) (op := removeO name) (fun l => remove_inv) h
        rw [show stepD namedD ⟨l, F⟩ (removeO name) = (⟨l4, f4⟩, e4) from hq4.symm] at this; exact this)
      clear hl3 hl4 hq1 hq3 hq4
      go_wp2_with fail
      (with_reducible refine HPK.out.mono ?_)
      rintro e w2 ⟨rfl, rfl⟩
      go_wp2_with fail
      (with_reducible refine (HRD.out).mono ?_)
      rintro e w2 ⟨rfl, hb⟩
      have HB2 := Lib.hid (HBr.out.trans (hb.mono HBr.out.size))
      clear hb
      clear c0 c1 cz0 cz1
      clear x0 x1 xz0 xz1
      clear hX gX HPK
      obtain ⟨c0, c1, cz0, cz1⟩ := cell_of_two (HGX.out _ HB2.out)
      go_wp2_with fail
      (with_reducible refine (HSV.out _ HB2.out).mono ?_)
      rintro e w3 ⟨v', rfl, hrd, hb⟩
      obtain ⟨a3, p3, rfl⟩ : ∃ a p, v' = .slice a l3.length p := rd_form hrd
      have HB3 := Lib.hid (HB2.out.trans (hb.mono HB2.out.size))
      have HR3 := Lib.hid (show rdF w3 (.slice a3 l3.length p3) l3 from hrd)
      have HB54 := Lib.hid hb
      clear hb hrd
      clear c0 c1 cz0 cz1
      obtain ⟨wA, hA⟩ : ∃ x, w3.alloc (.cells #[.slice a3 l3.length p3, .int .i64 f3] 30) = x := ⟨_, rfl⟩
      have gA : wA.heap[w3.heap.size]? = some (.cells #[.slice a3 l3.length p3, .int .i64 f3] 30 (0, 0)) := by rw [← hA]; exact heap_alloc_new _ _
      have HBA := Lib.hid (show Below X.heap.size X wA by rw [← hA]; exact HB3.out.alloc HB3.out.size _)
      have HRA := Lib.hid (show rdF wA (.slice a3 l3.length p3) l3 by rw [← hA]; exact HR3.out.below ((Below.refl _ _).alloc (Nat.le_refl _) _))
      have HGA := Lib.hid (fun w' (h : Below wA.heap.size wA w') => blk_below gA h)
      obtain ⟨c0, c1, cz0, cz1⟩ := cell_of_two (HGX.out _ HBA.out)
      obtain ⟨d0, d1, dz0, dz1⟩ := cell_of_two (HGA.out _ (Below.refl _ wA))
      have HRA2 := Lib.hid (read_any l3 f3 _ wA HRA.out other)
      rw [HL3.out] at HRA2
      clear gA
      go_wp2_with fail
      (with_reducible refine HRA2.out.mono ?_)
      rintro e w4 ⟨rfl, hb⟩
      have HBa4 := Lib.hid hb
      have HB4 := Lib.hid (HBA.out.trans (hb.mono HBA.out.size))
      clear c0 c1 cz0 cz1
      clear d0 d1 dz0 dz1
      clear hb hA
      obtain ⟨c0, c1, cz0, cz1⟩ := cell_of_two (HGX.out _ HB4.out)
      go_wp2_with fail
      (with_reducible refine (HRM.out _ HB4.out).mono ?_)
      rintro e w5 ⟨v', rfl, hrd, hb⟩
      obtain ⟨a5, p5, rfl⟩ : ∃ a p, v' = .slice a l4.length p := rd_form hrd
      have HB5 := Lib.hid (HB4.out.trans (hb.mono HB4.out.size))
      have HR5 := Lib.hid (show rdF w5 (.slice a5 l4.length p5) l4 from hrd)
      have HB54 := Lib.hid hb
      clear hb hrd
      have HBa5 := Lib.hid (show Below wA.heap.size wA w5 from HBa4.out.trans (HB54.out.mono HBa4.out.size))
      clear c0 c1 cz0 cz1
      obtain ⟨wB, hB⟩ : ∃ x, w5.alloc (.cells #[.slice a5 l4.length p5, .int .i64 f4] 30) = x := ⟨_, rfl⟩
      have gB : wB.heap[w5.heap.size]? = some (.cells #[.slice a5 l4.length p5, .int .i64 f4] 30 (0, 0)) := by rw [← hB]; exact heap_alloc_new _ _
      have HBB := Lib.hid (show Below X.heap.size X wB by rw [← hB]; exact HB5.out.alloc HB5.out.size _)
      have HRB := Lib.hid (show rdF wB (.slice a5 l4.length p5) l4 by rw [← hB]; exact HR5.out.below ((Below.refl _ _).alloc (Nat.le_refl _) _))
      have HGB := Lib.hid (fun w' (h : Below wB.heap.size wB w') => blk_below gB h)
      obtain ⟨c0, c1, cz0, cz1⟩ := cell_of_two (HGX.out _ HBB.out)
      obtain ⟨d0, d1, dz0, dz1⟩ := cell_of_two (HGB.out _ (Below.refl _ wB))
      have HBaB := Lib.hid (show Below wA.heap.size wA wB by rw [← hB]; exact HBa5.out.alloc HBa5.out.size _)
      have HRB2 := Lib.hid (read_any l4 f4 _ wB HRB.out other)
      rw [HL4.out] at HRB2
      clear gB
      go_wp2_with fail
      (with_reducible refine HRB2.out.mono ?_)
      rintro e w6 ⟨rfl, hb⟩
      have HBb6 := Lib.hid hb
      have HB6 := Lib.hid (HBB.out.trans (hb.mono HBB.out.size))
      have HBa6 := Lib.hid (HBaB.out.trans (hb.mono HBaB.out.size))
      clear c0 c1 cz0 cz1
      clear d0 d1 dz0 dz1
      clear hb hB
      obtain ⟨c0, c1, cz0, cz1⟩ := cell_of_two (HGX.out _ HB6.out)
      have hbw : (was.toList == was.toList) = true := by simp
      have HGD6 := Lib.hid (HGD.out _ HB6.out)
      by_cases hgood : GoodL namedD l
      · rw [goodB_true hgood] at HGD6
        have h3 := HK3.out hgood
        have h4 := HK4.out hgood
        have HGA3 := Lib.hid (fun w' (h : Below wA.heap.size wA w') => goodD_any l3 _ f3 w' (HRA.out.below h))
        have HGB4 := Lib.hid (fun w' (h : Below wB.heap.size wB w') => goodD_any l4 _ f4 w' (HRB.out.below h))
        rw [goodB_true h3] at HGA3
        rw [goodB_true h4] at HGB4
        clear hgood h3 h4
        go_wp2_with fail
        (with_reducible refine HGD6.out.mono ?_)
        rintro e w7 ⟨rfl, hb⟩
        have HB7 := Lib.hid (HB6.out.trans (hb.mono HB6.out.size))
        have HBa7 := Lib.hid (HBa6.out.trans (hb.mono HBa6.out.size))
        have HBb7 := Lib.hid (HBb6.out.trans (hb.mono HBb6.out.size))
        clear c0 c1 cz0 cz1
        clear hb
        obtain ⟨d0, d1, dz0, dz1⟩ := cell_of_two (HGA.out _ HBa7.out)
        go_wp2_with fail
        (with_reducible refine (HGA3.out _ HBa7.out).mono ?_)
        rintro e w8 ⟨rfl, hb⟩
        have HB8 := Lib.hid (HB7.out.trans (hb.mono HB7.out.size))
        have HBb8 := Lib.hid (HBb7.out.trans (hb.mono HBb7.out.size))
        clear d0 d1 dz0 dz1
        clear hb
        obtain ⟨d0, d1, dz0, dz1⟩ := cell_of_two (HGB.out _ HBb8.out)
        go_wp2_with fail
        (with_reducible refine (HGB4.out _ HBb8.out).mono ?_)
        rintro e w9 ⟨rfl, hb⟩
        have HB9 := Lib.hid (HB8.out.trans (hb.mono HB8.out.size))
        clear hb
        go_wp2_with fail
        go_ret
        exact ⟨rfl, HWX.out.trans (HB9.out.mono HWX.out.size)⟩
      · rw [goodB_false hgood] at HGD6
        clear hgood
        go_wp2_with fail
        (with_reducible refine HGD6.out.mono ?_)
        rintro e w7 ⟨rfl, hb⟩
        have HB7 := Lib.hid (HB6.out.trans (hb.mono HB6.out.size))
        clear hb
        go_wp2_with fail
        go_ret
        exact ⟨rfl, HWX.out.trans (HB7.out.mono HWX.out.size)⟩
end Go.Proofs.Ytnggcldpojebkaa
