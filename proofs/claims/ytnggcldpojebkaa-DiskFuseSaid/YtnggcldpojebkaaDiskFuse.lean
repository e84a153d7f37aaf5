/- DiskFuse: the walk and its law. -/
import Derived.Test.YtnggcldpojebkaaDiskMoved
import Derived.Test.YtnggcldpojebkaaPick
namespace Go.Proofs.Ytnggcldpojebkaa
open Go.RowKit
set_option linter.unusedVariables false
set_option linter.unusedSimpArgs false

theorem writeO_codes {l : List Fil} {n s : ByteArray} : (writeO namedD n s l).2 ≠ 12 := by
  unfold writeO
  split
  · simp
  · cases hg : fget n l with
    | none =>
      simp only
      split
      · simp
      · split <;> simp
    | some f =>
      simp only
      split <;> simp
theorem fuse_law {l l2 : List Fil} {f f2 e2 : Int} {n s : ByteArray} (h : ((⟨l2, f2⟩, e2) : Dsk × Int) = writeD namedD ⟨l, f⟩ n s) (hg : GoodL namedD l) (hf : 0 ≤ f) :
    GoodL namedD l2 ∧ (f = 0 → e2 = 12 ∧ l2 = l ∧ f2 = f) ∧ (0 < f → e2 ≠ 12 ∧ (e2 = 0 → f2 = f - 1) ∧ (e2 ≠ 0 → l2 = l ∧ f2 = f)) ∧ 0 ≤ f2 ∧ f2 ≤ f := by
  by_cases h0 : f = 0
  · subst h0
    have := h.trans (step_2 (d := ⟨l, 0⟩) hg rfl)
    simp only [Prod.mk.injEq, Dsk.mk.injEq] at this
    obtain ⟨⟨rfl, rfl⟩, rfl⟩ := this
    exact ⟨hg, fun _ => ⟨rfl, rfl, rfl⟩, fun h => by omega, by omega, by omega⟩
  · by_cases he : (writeO namedD n s l).2 = 0
    · have := h.trans (step_4 (d := ⟨l, f⟩) (op := writeO namedD n s) hg h0 he)
      simp only [Prod.mk.injEq, Dsk.mk.injEq, if_pos (show 0 < f by omega)] at this
      obtain ⟨⟨rfl, rfl⟩, rfl⟩ := this
      exact ⟨write_inv hg he, fun h => absurd h h0, fun _ => ⟨by simp, fun _ => rfl, fun h => absurd rfl h⟩, by omega, by omega⟩
    · have := h.trans (step_3 (d := ⟨l, f⟩) (op := writeO namedD n s) hg h0 he)
      simp only [Prod.mk.injEq, Dsk.mk.injEq] at this
      obtain ⟨⟨rfl, rfl⟩, rfl⟩ := this
      exact ⟨hg, fun h => absurd h h0, fun _ => ⟨writeO_codes, fun h => absurd h he, fun _ => ⟨rfl, rfl⟩⟩, by omega, by omega⟩
set_option maxRecDepth 100000 in
set_option maxHeartbeats 3200000 in
theorem diskFuse_walk {w : World} (l : List Fil) (f : Int) (v : Value) (hr : rdF w v l) (hfu : -9223372036854775808 ≤ f ∧ f ≤ 9223372036854775807) (name : ByteArray) (hna : name.size ≤ 140737488351232) (s : ByteArray) (hs : s.size ≤ 140737488351232) (n : Int) (hn : -9223372036854775808 ≤ n ∧ n ≤ 9223372036854775807) :
    Calls Try.prog 5 #[.agg #[v, .int .i64 f], .string name, .string s, .int .i64 n] w fun e w' => e = .returned (.bool true) ∧ Below w.heap.size w w' := by
  obtain ⟨a0, p0, hv⟩ := rd_form hr
  subst hv
  obtain ⟨W, hW⟩ : ∃ W, w.alloc (.cells #[.slice a0 l.length p0, .int .i64 f] 30) = W := ⟨_, rfl⟩
  have hbW : Below w.heap.size w W := by rw [← hW]; exact (Below.refl _ _).alloc (Nat.le_refl _) _
  have g0 : W.heap[w.heap.size]? = some (.cells #[.slice a0 l.length p0, .int .i64 f] 30 (0, 0)) := by rw [← hW]; exact heap_alloc_new _ _
  have HBW := Lib.hid hbW
  have HG := Lib.hid (fun w' (h : Below W.heap.size W w') => blk_below g0 h)
  have HR := Lib.hid (hr.below hbW)
  have HB0 := Lib.hid (Below.refl W.heap.size W)
  obtain ⟨c0, c1, cz0, cz1⟩ := cell_of_two g0
  clear hr hbW g0
  have HGD := Lib.hid (goodD_any l _ f W HR.out)
  by_cases hgood : GoodL namedD l
  · rw [goodB_true hgood] at HGD
    have HGOOD := Lib.hid hgood
    clear hgood hna hs hfu
    go_enter Try.func5, Try.ntmps5
    go_wp2_with fail
    (with_reducible refine (HGD.out).mono ?_)
    rintro e w1 ⟨rfl, hb⟩
    have HB1 := Lib.hid (HB0.out.trans (hb.mono HB0.out.size))
    clear hb
    go_wp2_with fail
    (with_reducible refine (disks_any _).mono ?_)
    rintro e w2 ⟨rfl, hb⟩
    have HB2 := Lib.hid (HB1.out.trans (hb.mono HB1.out.size))
    clear hb
    clear c0 c1 cz0 cz1
    obtain ⟨c0, c1, cz0, cz1⟩ := cell_of_two (HG.out _ HB2.out)
    obtain ⟨p, hp⟩ : ∃ p, p = n % 5 := ⟨_, rfl⟩
    have HPK := Lib.hid (pick5 n w2 hn)
    rw [← hp] at HPK
    have HP := Lib.hid (show 0 ≤ p ∧ p ≤ 4 by omega)
    clear hn hp hW HGD
    obtain ⟨X, hX⟩ : ∃ X, w2.setCell ⟨w.heap.size, 1, none⟩ (.int .i64 (p)) = X := ⟨_, rfl⟩
    have gX : X.heap[w.heap.size]? = some (.cells #[.slice a0 l.length p0, .int .i64 (p)] 30 (0, 0)) := by rw [← hX]; exact two_setCell1 (HG.out _ HB2.out)
    have HWX := Lib.hid (show Below w.heap.size w X by rw [← hX]; exact (HBW.out.trans ((HB2.out).mono HBW.out.size)).setCell (p := ⟨w.heap.size, 1, none⟩) (Nat.le_refl _) _)
    have HRX := Lib.hid (show rdF X (.slice a0 l.length p0) l by rw [← hX]; exact rdF_upd (HR.out.below (HB2.out)) ((Upd.refl (fun i => i = w.heap.size) _).setCell (a := ⟨w.heap.size, 1, none⟩) (.inl rfl) _) (no_str (HG.out _ HB2.out)))
    have HGX := Lib.hid (fun w' (h : Below X.heap.size X w') => blk_below gX h)
    obtain ⟨x0, x1, xz0, xz1⟩ := cell_of_two gX
    have HBr := Lib.hid (Below.refl X.heap.size X)
    go_wp2_with fail
    (with_reducible refine HPK.out.mono ?_)
    rintro e w3 ⟨rfl, rfl⟩
    go_wp2_with fail
    clear c0 c1 cz0 cz1
    clear x0 x1 xz0 xz1
    have HGX0 := Lib.hid gX
    clear hX gX HPK HBr
    go_loopw [9] (fun s9 wr => ∃ (k : Nat) (a : Option Addr) (pp : Nat) (ll : List Fil) (fz : Int), k ≤ 8 ∧ s9 = .int .i64 (k : Int) ∧ Hid (wr.heap[w.heap.size]? = some (.cells #[.slice a ll.length pp, .int .i64 fz] 30 (0, 0))) ∧ Hid (rdF wr (.slice a ll.length pp) ll) ∧ Hid (GoodL namedD ll) ∧ Hid (0 ≤ fz ∧ fz ≤ 4) ∧ Hid (Below w.heap.size w wr)) (fun s9 _ => 8 - (intOf s9).toNat)
    case atStart => exact ⟨0, a0, p0, l, p, by omega, rfl, HGX0, HRX, HGOOD, HP, HWX⟩
    case round =>
      clear HRX HGX HGX0 HWX HP HGOOD
      obtain ⟨k, a, pp, ll, fz, hk, rfl, HGn, HRn, HGo, HFz, HBn⟩ := hrel
      obtain ⟨c0, c1, cz0, cz1⟩ := cell_of_two HGn.out
      by_cases hlt : k < 8
      · have hki : (k : Int) < 8 := by omega
        have hkb : decide ((k : Int) < 8) = true := decide_eq_true hki
        obtain ⟨⟨⟨l2, f2⟩, e2⟩, hq⟩ : ∃ q, q = writeD namedD ⟨ll, fz⟩ name s := ⟨_, rfl⟩
        have hcall := write_any ll fz (by have := HFz.out; omega) _ wr HRn.out name s
        rw [← hq] at hcall
        have HC := Lib.hid hcall
        have HLAW := Lib.hid (fuse_law hq HGo.out HFz.out.1)
        clear hcall hq
        go_wp2_with fail
        (with_reducible refine HC.out.mono ?_)
        rintro e w2 ⟨v', rfl, hrd, hb⟩
        obtain ⟨a2, p2, rfl⟩ : ∃ a p, v' = .slice a l2.length p := rd_form hrd
        obtain ⟨wA, hA⟩ : ∃ x, w2.alloc (.cells #[.slice a2 l2.length p2, .int .i64 f2] 30) = x := ⟨_, rfl⟩
        have gA : wA.heap[w2.heap.size]? = some (.cells #[.slice a2 l2.length p2, .int .i64 f2] 30 (0, 0)) := by rw [← hA]; exact heap_alloc_new _ _
        have HBA := Lib.hid (show Below wr.heap.size wr wA by rw [← hA]; exact hb.alloc hb.size _)
        have HRA := Lib.hid (show rdF wA (.slice a2 l2.length p2) l2 by rw [← hA]; exact (show rdF w2 (.slice a2 l2.length p2) l2 from hrd).below ((Below.refl _ _).alloc (Nat.le_refl _) _))
        have HGA := Lib.hid (fun w' (h : Below wA.heap.size wA w') => blk_below gA h)
        clear hb hrd HC c0 c1 cz0 cz1
        obtain ⟨c0, c1, cz0, cz1⟩ := cell_of_two (blk_below HGn.out HBA.out)
        obtain ⟨d0, d1, dz0, dz1⟩ := cell_of_two gA
        clear gA
        have HGO2 := Lib.hid HLAW.out.1
        have HF2 := Lib.hid (show 0 ≤ f2 ∧ f2 ≤ 4 by have h1 := HLAW.out.2.2.2; have h2 := HFz.out; omega)
        by_cases hz : fz = 0
        · obtain ⟨rfl, rfl, rfl⟩ := HLAW.out.2.1 hz
          have hzb : (f2 == 0) = true := by rw [hz]; rfl
          have hzp : decide (0 < f2) = false := decide_eq_false (by omega)
          have HSM := Lib.hid (sameDisk_any l2 f2 _ _ wA HRA.out (HRn.out.below HBA.out))
          clear HLAW hz
          go_wp2_with fail
          (with_reducible refine HSM.out.mono ?_)
          rintro e w3 ⟨rfl, hb⟩
          have HB3 := Lib.hid hb
          have HB4 := Lib.hid (HBA.out.trans (hb.mono HBA.out.size))
          clear hb hA HSM
          have hgn := blk_below HGn.out HB4.out
          have hgf := two_setCell1 (u := .int .i64 f2) (two_setCell0 (u := .slice a2 l2.length p2) hgn)
          have HRF := Lib.hid (rdF_upd (HRA.out.below HB3.out) (set2_updF (.slice a2 l2.length p2) (.int .i64 f2)) (no_str hgn))
          have HGF := Lib.hid hgf
          have HBF := Lib.hid (set2_below (HBn.out.trans (HB4.out.mono HBn.out.size)) (g := w.heap.size) (Nat.le_refl _) (.slice a2 l2.length p2) (.int .i64 f2))
          clear c0 c1 cz0 cz1 d0 d1 dz0 dz1
          obtain ⟨c0, c1, cz0, cz1⟩ := cell_of_two hgn
          obtain ⟨d0, d1, dz0, dz1⟩ := cell_of_two (HGA.out _ HB3.out)
          clear hgn hgf
          go_wp2_with fail
          go_roundw
          case rel => exact ⟨k + 1, a2, p2, l2, f2, by omega, by first | rfl | go_num, HGF, HRF, HGO2, HF2, HBF⟩
          case measure => simp [intOf]; omega
        · have hzb : (fz == 0) = false := beq_eq_false_iff_ne.2 hz
          have hzp : decide (0 < fz) = true := decide_eq_true (by have := HFz.out; omega)
          obtain ⟨q1, q2, q3⟩ := HLAW.out.2.2.1 (by have := HFz.out; omega)
          have hzp2 : 0 < fz := by have := HFz.out; omega
          have hq12 : (e2 == 12) = false := beq_eq_false_iff_ne.2 q1
          by_cases he : e2 = 0
          · have hf2 := q2 he
            have hsub : IntKind.i64.wrap (fz - f2) = 1 := by rw [hf2, IntKind.wrap_i64]; omega
            subst he
            have HSUB := Lib.hid hf2
            clear q1 q2 q3 hf2 HLAW hz hzp2
            have hgn := blk_below HGn.out HBA.out
            have hgf := two_setCell1 (u := .int .i64 f2) (two_setCell0 (u := .slice a2 l2.length p2) hgn)
            have HRF := Lib.hid (rdF_upd (HRA.out) (set2_updF (.slice a2 l2.length p2) (.int .i64 f2)) (no_str hgn))
            have HGF := Lib.hid hgf
            have HBF := Lib.hid (set2_below (HBn.out.trans (HBA.out.mono HBn.out.size)) (g := w.heap.size) (Nat.le_refl _) (.slice a2 l2.length p2) (.int .i64 f2))
            clear c0 c1 cz0 cz1 d0 d1 dz0 dz1
            obtain ⟨c0, c1, cz0, cz1⟩ := cell_of_two hgn
            obtain ⟨d0, d1, dz0, dz1⟩ := cell_of_two (HGA.out _ (Below.refl _ wA))
            clear hgn hgf
            go_wp2_with fail
            go_roundw
            case rel => exact ⟨k + 1, a2, p2, l2, f2, by omega, by first | rfl | go_num, HGF, HRF, HGO2, HF2, HBF⟩
            case measure => simp [intOf]; omega
          · obtain ⟨rfl, rfl⟩ := q3 he
            have hq0 : (e2 == 0) = false := beq_eq_false_iff_ne.2 he
            have hq0n : (e2 != 0) = true := by rw [bne, hq0]; rfl
            have HSM := Lib.hid (sameDisk_any l2 f2 _ _ wA HRA.out (HRn.out.below HBA.out))
            clear q1 q2 q3 HLAW hz he
            go_wp2_with fail
            (with_reducible refine HSM.out.mono ?_)
            rintro e w3 ⟨rfl, hb⟩
            have HB3 := Lib.hid hb
            have HB4 := Lib.hid (HBA.out.trans (hb.mono HBA.out.size))
            clear hb hA HSM
            have hgn := blk_below HGn.out HB4.out
            have hgf := two_setCell1 (u := .int .i64 f2) (two_setCell0 (u := .slice a2 l2.length p2) hgn)
            have HRF := Lib.hid (rdF_upd (HRA.out.below HB3.out) (set2_updF (.slice a2 l2.length p2) (.int .i64 f2)) (no_str hgn))
            have HGF := Lib.hid hgf
            have HBF := Lib.hid (set2_below (HBn.out.trans (HB4.out.mono HBn.out.size)) (g := w.heap.size) (Nat.le_refl _) (.slice a2 l2.length p2) (.int .i64 f2))
            clear c0 c1 cz0 cz1 d0 d1 dz0 dz1
            obtain ⟨c0, c1, cz0, cz1⟩ := cell_of_two hgn
            obtain ⟨d0, d1, dz0, dz1⟩ := cell_of_two (HGA.out _ HB3.out)
            clear hgn hgf
            go_wp2_with fail
            go_roundw
            case rel => exact ⟨k + 1, a2, p2, l2, f2, by omega, by first | rfl | go_num, HGF, HRF, HGO2, HF2, HBF⟩
            case measure => simp [intOf]; omega
      · obtain rfl : k = 8 := by omega
        have hcr := crash_any ll fz _ wr HRn.out 0 (by omega)
        rw [crashD_2 (d := ⟨ll, fz⟩) HGo.out (by omega)] at hcr
        have HCR := Lib.hid hcr
        clear hcr
        go_wp2_with fail
        (with_reducible refine HCR.out.mono ?_)
        rintro e w2 ⟨v', rfl, hrd, hb⟩
        obtain ⟨a2, p2, rfl⟩ := rd_form hrd
        have HB2 := Lib.hid (HBn.out.trans (hb.mono HBn.out.size))
        clear hb hrd HCR
        go_wp2_with fail
        go_ret
        exact ⟨rfl, HB2.out.alloc HB2.out.size _⟩
  · rw [goodB_false hgood] at HGD
    clear hgood hna hs hfu hn
    go_enter Try.func5, Try.ntmps5
    go_wp2_with fail
    (with_reducible refine (HGD.out).mono ?_)
    rintro e w1 ⟨rfl, hb⟩
    have HB1 := Lib.hid (HB0.out.trans (hb.mono HB0.out.size))
    clear hb
    go_wp2_with fail
    (with_reducible refine (disks_any _).mono ?_)
    rintro e w2 ⟨rfl, hb⟩
    have HB2 := Lib.hid (HB1.out.trans (hb.mono HB1.out.size))
    clear hb
    go_wp2_with fail
    go_ret
    exact ⟨rfl, HBW.out.trans (HB2.out.mono HBW.out.size)⟩
end Go.Proofs.Ytnggcldpojebkaa
