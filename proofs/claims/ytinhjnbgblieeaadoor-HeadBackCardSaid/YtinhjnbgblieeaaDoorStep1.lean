/- The walk of package step's Good. -/
import Derived.Test.YtinhjnbgblieeaaDoorStp
namespace Go.Proofs.YtinhjnbgblieeaaDoor
open Go.RowKit
set_option linter.unusedVariables false
set_option linter.unusedSimpArgs false

theorem goodS_1 {s : Stp} (h : headOk s = false) : goodS s = 2 := by unfold goodS; rw [if_pos h]
theorem goodS_2 {s : Stp} (h : headOk s = true) (h2 : 8 < s.who.length ∨ s.who.length ≠ s.seals.length) : goodS s = 6 := by unfold goodS; rw [if_neg (by rw [h]; decide), if_pos h2]
theorem goodS_3 {s : Stp} (h : headOk s = true) (h2 : ¬ (8 < s.who.length ∨ s.who.length ≠ s.seals.length)) : goodS s = firstE (rowS s) 0 s.who.length := by unfold goodS; rw [if_neg (by rw [h]; decide), if_neg h2]
theorem rowS_z {s : Stp} {k : Nat} (h : ¬ (s.who.getD k 0 < 0 ∨ 8 ≤ s.who.getD k 0 ∨ (0 < k ∧ s.who.getD k 0 ≤ s.who.getD (k - 1) 0))) (h2 : (s.seals.getD k noB).size = 32) : rowS s k = 0 := by
  unfold rowS; rw [if_neg h, if_neg (fun e => e h2)]
theorem rowS_t {s : Stp} {k : Nat} (h : ¬ (s.who.getD k 0 < 0 ∨ 8 ≤ s.who.getD k 0 ∨ (0 < k ∧ s.who.getD k 0 ≤ s.who.getD (k - 1) 0))) (h2 : (s.seals.getD k noB).size ≠ 32) : rowS s k = 2 := by
  unfold rowS; rw [if_neg h, if_pos h2]
set_option maxRecDepth 100000 in
set_option maxHeartbeats 3200000 in
theorem goodStp_any (s : Stp) (vw vs : Value) (w : World) (hw : rdI w vw s.who) (hs : rdS w vs s.seals) :
    Calls Tryd.prog 14 #[.agg #[.string s.ref, .string s.old, .string s.new, vw, vs]] w fun e w' => e = .returned (.int .i64 (goodS s)) ∧ Below w.heap.size w w' := by
  obtain ⟨F, hF⟩ : ∃ F, F = goodS s := ⟨_, rfl⟩
  rw [← hF]
  have HF := Lib.hid hF
  have HW := Lib.hid hw
  have HS := Lib.hid hs
  obtain ⟨ae, ce, rfl⟩ := rd_form hw
  obtain ⟨af, cf, rfl⟩ := rd_form hs
  clear hF hw hs
  obtain ⟨W, hW⟩ : ∃ W, w.alloc (.cells #[.string s.ref, .string s.old, .string s.new, .slice ae s.who.length ce, .slice af s.seals.length cf] 25) = W := ⟨_, rfl⟩
  have hg0 : W.heap[w.heap.size]? = some (.cells #[.string s.ref, .string s.old, .string s.new, .slice ae s.who.length ce, .slice af s.seals.length cf] 25 (0, 0)) := by rw [← hW]; exact heap_alloc_new _ _
  obtain ⟨c0, c1, c2, c3, c4, _, _⟩ := stp_cells hg0
  have HG := Lib.hid hg0
  have HBA := Lib.hid (show Below w.heap.size w W by rw [← hW]; exact (Below.refl _ _).alloc (Nat.le_refl _) _)
  clear hg0
  have HNM := Lib.hid (namedR_any s.ref W)
  obtain ⟨nm, hnm⟩ : ∃ nm, nm = namedR s.ref := ⟨_, rfl⟩
  rw [← hnm] at HNM
  have HNMD := Lib.hid hnm.symm
  clear hnm
  cases nm with
  | false =>
    have hF := HF.out.trans (goodS_1 (by rw [headOk, HNMD.out]; rfl))
    subst hF
    go_enter Tryd.func14, Tryd.ntmps14
    go_wp2_with fail
    (with_reducible refine HNM.out.mono ?_)
    rintro e w1 ⟨rfl, hb⟩
    have HB1 := Lib.hid hb
    have g1 := blk_below (HG.out) hb
    clear hb
    obtain ⟨c0, c1, c2, c3, c4, _, _⟩ := stp_cells g1
    go_wp2_with fail
    go_ret
    exact ⟨rfl, HBA.out.trans (HB1.out.mono HBA.out.size)⟩
  | true =>
    by_cases hoe : s.old.size = 0
    · have ho := Lib.hid hoe
      have oe0 : ((s.old.size : Int) == 0) = true := by rw [hoe]; rfl
      have on0 : ((s.old.size : Int) != 0) = false := by rw [bne, oe0]; rfl
      have oe32 : ((s.old.size : Int) == 32) = false := beq_eq_false_iff_ne.2 (by omega)
      have on32 : ((s.old.size : Int) != 32) = true := by rw [bne, oe32]; rfl
      clear hoe
      by_cases hne : s.new.size = 0
      · have hn := Lib.hid hne
        have ne0 : ((s.new.size : Int) == 0) = true := by rw [hne]; rfl
        have nn0 : ((s.new.size : Int) != 0) = false := by rw [bne, ne0]; rfl
        have ne32 : ((s.new.size : Int) == 32) = false := beq_eq_false_iff_ne.2 (by omega)
        have nn32 : ((s.new.size : Int) != 32) = true := by rw [bne, ne32]; rfl
        clear hne
        by_cases hon : s.old = s.new
        · have HH := Lib.hid (show headOk s = false by rw [headOk, hon]; simp)
          have hF := HF.out.trans (goodS_1 HH.out)
          subst hF
          have hob : (s.old.toList == s.new.toList) = true := by rw [hon]; exact beq_self_eq_true _
          clear hon
          go_enter Tryd.func14, Tryd.ntmps14
          go_wp2_with fail
          (with_reducible refine HNM.out.mono ?_)
          rintro e w1 ⟨rfl, hb⟩
          have HB1 := Lib.hid hb
          have g1 := blk_below (HG.out) hb
          clear hb
          obtain ⟨c0, c1, c2, c3, c4, _, _⟩ := stp_cells g1
          go_wp2_with fail
          go_ret
          exact ⟨rfl, HBA.out.trans (HB1.out.mono HBA.out.size)⟩
        · have HH := Lib.hid (show headOk s = true by rw [headOk, HNMD.out, idOk, idOk, ho.out, hn.out, decide_eq_true hon]; rfl)
          have hob : (s.old.toList == s.new.toList) = false := beq_eq_false_iff_ne.2 (fun e => hon (toList_inj e))
          clear hon
          by_cases hl : 8 < s.who.length ∨ s.who.length ≠ s.seals.length
          · have hF := HF.out.trans (goodS_2 HH.out hl)
            subst hF
            by_cases h8 : 8 < s.who.length
            · have l1 : decide ((8 : Int) < (s.who.length : Int)) = true := decide_eq_true (by omega)
              go_enter Tryd.func14, Tryd.ntmps14
              go_wp2_with fail
              (with_reducible refine HNM.out.mono ?_)
              rintro e w1 ⟨rfl, hb⟩
              have HB1 := Lib.hid hb
              have g1 := blk_below (HG.out) hb
              clear hb
              obtain ⟨c0, c1, c2, c3, c4, _, _⟩ := stp_cells g1
              go_wp2_with fail
              go_ret
              exact ⟨rfl, HBA.out.trans (HB1.out.mono HBA.out.size)⟩
            · have l1 : decide ((8 : Int) < (s.who.length : Int)) = false := decide_eq_false (by omega)
              have l2 : ((s.who.length : Int) == (s.seals.length : Int)) = false := beq_eq_false_iff_ne.2 (by omega)
              have l3 : ((s.who.length : Int) != (s.seals.length : Int)) = true := by rw [bne, l2]; rfl
              go_enter Tryd.func14, Tryd.ntmps14
              go_wp2_with fail
              (with_reducible refine HNM.out.mono ?_)
              rintro e w1 ⟨rfl, hb⟩
              have HB1 := Lib.hid hb
              have g1 := blk_below (HG.out) hb
              clear hb
              obtain ⟨c0, c1, c2, c3, c4, _, _⟩ := stp_cells g1
              go_wp2_with fail
              go_ret
              exact ⟨rfl, HBA.out.trans (HB1.out.mono HBA.out.size)⟩
          · have hle : s.who.length = s.seals.length := by omega
            have l1 : decide ((8 : Int) < (s.who.length : Int)) = false := decide_eq_false (by omega)
            have l2 : ((s.who.length : Int) == (s.seals.length : Int)) = true := beq_iff_eq.2 (by omega)
            have l3 : ((s.who.length : Int) != (s.seals.length : Int)) = false := by rw [bne, l2]; rfl
            have HFE := Lib.hid (HF.out.trans (goodS_3 HH.out hl))
            have H8 := Lib.hid (show s.who.length ≤ 8 by omega)
            have HLE := Lib.hid hle
            clear hl hle
            go_enter Tryd.func14, Tryd.ntmps14
            go_wp2_with fail
            (with_reducible refine HNM.out.mono ?_)
            rintro e w1 ⟨rfl, hb⟩
            have HB1 := Lib.hid hb
            have g1 := blk_below (HG.out) hb
            clear hb
            obtain ⟨c0, c1, c2, c3, c4, _, _⟩ := stp_cells g1
            go_wp2_with fail
            have HBW := Lib.hid (HBA.out.trans (HB1.out.mono HBA.out.size))
            have hb0 := Lib.hid (Below.refl w1.heap.size w1)
            have HGG := Lib.hid (fun wr (h : Below w1.heap.size w1 wr) => blk_below g1 h)
            clear c0 c1 c2 c3 c4 g1
            go_loopw [2, 56] (fun r i wr => ∃ k : Nat, k ≤ s.who.length ∧ r = .int .i64 0 ∧ i = .int .i64 (k : Int) ∧ Hid (∀ j, j < k → rowS s j = 0) ∧ Hid (Below w1.heap.size w1 wr)) (fun _ i _ => s.who.length - (intOf i).toNat)
            case atStart => exact ⟨0, Nat.zero_le _, rfl, rfl, Lib.hid fun j hj => absurd hj (Nat.not_lt_zero _), hb0⟩
            case round =>
              obtain ⟨k, hk, rfl, rfl, HALL, HR1⟩ := hrel
              have HB := Lib.hid (HBW.out.trans (HR1.out.mono HBW.out.size))
              obtain ⟨c0, c1, c2, c3, c4, _, _⟩ := stp_cells (HGG.out _ HR1.out)
              by_cases hlt : k < s.who.length
              · have hki : (k : Int) < (s.who.length : Int) := by omega
                have hkb : decide ((k : Int) < (s.who.length : Int)) = true := decide_eq_true hki
                have hk0 : (0 : Int) ≤ (k : Int) := by omega
                obtain ⟨bw, ow, hae, hblt, hcw⟩ := rdI_at HW.out (by omega)
                obtain ⟨bs, os, hae2, hblt2, hcs⟩ := rdS_at' HS.out (by have := HLE.out; omega)
                subst hae
                subst hae2
                have d0 := (HB.out.cell (p := ⟨bw, ow + k, none⟩) hblt).trans (hcw k hlt)
                have d1 := (HB.out.cell (p := ⟨bs, os + k, none⟩) hblt2).trans (hcs k (by have := HLE.out; omega))
                have hks : (k : Int) < (s.seals.length : Int) := by have := HLE.out; omega
                obtain ⟨x, hx⟩ : ∃ x, x = s.who.getD k 0 := ⟨_, rfl⟩
                obtain ⟨q, hq⟩ : ∃ q, q = s.seals.getD k noB := ⟨_, rfl⟩
                rw [← hx] at d0
                rw [← hq] at d1
                have HX := Lib.hid hx
                have HQ := Lib.hid hq
                have HLT := Lib.hid hlt
                have HCW := Lib.hid hcw
                have HBL := Lib.hid hblt
                clear hx hq hcw hcs hblt hblt2
                by_cases x0 : x < 0
                · have xb0 : decide (x < 0) = true := decide_eq_true x0
                  have HOK := Lib.hid (show rowS s k = 3 by unfold rowS; rw [← HX.out, if_pos (.inl x0)])
                  have hF := HFE.out.trans (firstE_at (by rw [HOK.out]; decide) (Nat.zero_le _) (by have := HLT.out; omega) (fun j _ hj => HALL.out j hj))
                  rw [HOK.out] at hF
                  subst hF
                  go_wp2_with fail
                  go_ret
                  exact ⟨rfl, HB.out⟩
                · have xb0 : decide (x < 0) = false := decide_eq_false x0
                  by_cases x8 : 8 ≤ x
                  · have xb8 : decide (8 ≤ x) = true := decide_eq_true x8
                    have HOK := Lib.hid (show rowS s k = 3 by unfold rowS; rw [← HX.out, if_pos (.inr (.inl x8))])
                    have hF := HFE.out.trans (firstE_at (by rw [HOK.out]; decide) (Nat.zero_le _) (by have := HLT.out; omega) (fun j _ hj => HALL.out j hj))
                    rw [HOK.out] at hF
                    subst hF
                    go_wp2_with fail
                    go_ret
                    exact ⟨rfl, HB.out⟩
                  · have xb8 : decide (8 ≤ x) = false := decide_eq_false x8
                    rcases Nat.eq_zero_or_pos k with hk00 | hk00
                    · subst hk00
                      have hz0 : decide ((0 : Int) < (0 : Int)) = false := by simp
                      have HRW := Lib.hid (show ¬ (s.who.getD 0 0 < 0 ∨ 8 ≤ s.who.getD 0 0 ∨ (0 < 0 ∧ s.who.getD 0 0 ≤ s.who.getD (0 - 1) 0)) by have e := HX.out; omega)
                      have HCN := Lib.hid (show ((0 + 1 : Nat) : Int) = 1 from rfl)
                      have HMS := Lib.hid (show (1 : Int) = ((0 + 1 : Nat) : Int) from rfl)
                      simp only [Nat.add_zero] at d0 d1
                      by_cases hq : q.size = 32
                      · have hz : ((q.size : Int) == 32) = true := by rw [hq]; rfl
                        have hz2 : ((q.size : Int) != 32) = false := by rw [bne, hz]; rfl
                        have HOK := Lib.hid (show rowS s 0 = 0 from rowS_z HRW.out (by rw [← HQ.out]; exact hq))
                        clear hq
                        go_wp2_with fail
                        go_roundw
                        case rel => exact ⟨0 + 1, by have := HLT.out; omega, rfl, by (first | rfl | rw [HCN.out] | (rw [HCN.out, hw2])), Lib.hid fun j hj => by (by_cases hjk : j = 0; rw [hjk]; exact HOK.out; exact HALL.out j (by omega)), HR1⟩
                        case measure => exact meas_step _ (by first | exact HMS.out | exact hw2.symm.trans HMS.out) HLT.out
                      · have hz : ((q.size : Int) == 32) = false := beq_eq_false_iff_ne.2 (by omega)
                        have hz2 : ((q.size : Int) != 32) = true := by rw [bne, hz]; rfl
                        have HOK := Lib.hid (show rowS s 0 = 2 from rowS_t HRW.out (by rw [← HQ.out]; exact hq))
                        clear hq
                        have hF := HFE.out.trans (firstE_at (by rw [HOK.out]; decide) (Nat.zero_le _) (by have := HLT.out; omega) (fun j _ hj => HALL.out j hj))
                        rw [HOK.out] at hF
                        subst hF
                        go_wp2_with fail
                        go_ret
                        exact ⟨rfl, HB.out⟩
                    · obtain ⟨m, rfl⟩ : ∃ m, k = m + 1 := ⟨k - 1, by omega⟩
                      obtain ⟨y, hy⟩ : ∃ y, y = s.who.getD m 0 := ⟨_, rfl⟩
                      have dp := (HB.out.cell (p := ⟨bw, ow + m, none⟩) HBL.out).trans (HCW.out m (by omega))
                      rw [← hy] at dp
                      have HY := Lib.hid hy
                      have hmi : (m : Int) < (s.who.length : Int) := by omega
                      have hm0 : (0 : Int) ≤ (m : Int) := by omega
                      have hmn : m < s.who.length := by omega
                      have hmw : IntKind.i64.wrap (m : Int) = (m : Int) := by rw [IntKind.wrap_i64]; have := H8.out; omega
                      have hpos : decide ((0 : Int) < ((m + 1 : Nat) : Int)) = true := decide_eq_true (by omega)
                      clear hy
                      by_cases hxy : x ≤ y
                      · have xyb : decide (x ≤ y) = true := decide_eq_true hxy
                        have HOK := Lib.hid (show rowS s (m + 1) = 3 by unfold rowS; rw [← HX.out, Nat.add_sub_cancel, ← HY.out, if_pos (.inr (.inr ⟨by omega, hxy⟩))])
                        have hF := HFE.out.trans (firstE_at (by rw [HOK.out]; decide) (Nat.zero_le _) (by have := HLT.out; omega) (fun j _ hj => HALL.out j hj))
                        rw [HOK.out] at hF
                        subst hF
                        go_wp2_with fail
                        go_ret
                        exact ⟨rfl, HB.out⟩
                      · have xyb : decide (x ≤ y) = false := decide_eq_false hxy
                        have HRW := Lib.hid (show ¬ (s.who.getD (m + 1) 0 < 0 ∨ 8 ≤ s.who.getD (m + 1) 0 ∨ (0 < m + 1 ∧ s.who.getD (m + 1) 0 ≤ s.who.getD (m + 1 - 1) 0)) by rw [Nat.add_sub_cancel]; have e := HX.out; have e2 := HY.out; omega)
                        have hw2 : wrap64 ((m : Int) + 1 + 1) = (m : Int) + 1 + 1 := IntWalk.wrap64_in _ (by have := H8.out; omega)
                        have HCN := Lib.hid (show ((m + 1 + 1 : Nat) : Int) = wrap64 ((m : Int) + 1 + 1) by rw [hw2]; omega)
                        have HMS := Lib.hid (show wrap64 ((m : Int) + 1 + 1) = ((m + 1 + 1 : Nat) : Int) from HCN.out.symm)
                        by_cases hq : q.size = 32
                        · have hz : ((q.size : Int) == 32) = true := by rw [hq]; rfl
                          have hz2 : ((q.size : Int) != 32) = false := by rw [bne, hz]; rfl
                          have HOK := Lib.hid (show rowS s (m + 1) = 0 from rowS_z HRW.out (by rw [← HQ.out]; exact hq))
                          clear hq
                          go_wp2_with fail
                          go_roundw
                          case rel => exact ⟨m + 1 + 1, by have := HLT.out; omega, rfl, by (first | rfl | rw [HCN.out] | (rw [HCN.out, hw2])), Lib.hid fun j hj => by (by_cases hjk : j = m + 1; rw [hjk]; exact HOK.out; exact HALL.out j (by omega)), HR1⟩
                          case measure => exact meas_step _ (by first | exact HMS.out | exact hw2.symm.trans HMS.out) HLT.out
                        · have hz : ((q.size : Int) == 32) = false := beq_eq_false_iff_ne.2 (by omega)
                          have hz2 : ((q.size : Int) != 32) = true := by rw [bne, hz]; rfl
                          have HOK := Lib.hid (show rowS s (m + 1) = 2 from rowS_t HRW.out (by rw [← HQ.out]; exact hq))
                          clear hq
                          have hF := HFE.out.trans (firstE_at (by rw [HOK.out]; decide) (Nat.zero_le _) (by have := HLT.out; omega) (fun j _ hj => HALL.out j hj))
                          rw [HOK.out] at hF
                          subst hF
                          go_wp2_with fail
                          go_ret
                          exact ⟨rfl, HB.out⟩
              · have hkn : k = s.who.length := by omega
                have hkb : decide ((k : Int) < (s.who.length : Int)) = false := decide_eq_false (by omega)
                have hF := HFE.out.trans (firstE_all (fun j _ hj => HALL.out j (by omega)))
                subst hF
                go_wp2_with fail
                go_ret
                exact ⟨rfl, HB.out⟩
      · by_cases hnf : s.new.size = 32
        · have hne := hnf
          have hn := Lib.hid hne
          have ne0 : ((s.new.size : Int) == 0) = false := beq_eq_false_iff_ne.2 (by omega)
          have nn0 : ((s.new.size : Int) != 0) = true := by rw [bne, ne0]; rfl
          have ne32 : ((s.new.size : Int) == 32) = true := by rw [hne]; rfl
          have nn32 : ((s.new.size : Int) != 32) = false := by rw [bne, ne32]; rfl
          clear hnf hne
          by_cases hon : s.old = s.new
          · have HH := Lib.hid (show headOk s = false by rw [headOk, hon]; simp)
            have hF := HF.out.trans (goodS_1 HH.out)
            subst hF
            have hob : (s.old.toList == s.new.toList) = true := by rw [hon]; exact beq_self_eq_true _
            clear hon
            go_enter Tryd.func14, Tryd.ntmps14
            go_wp2_with fail
            (with_reducible refine HNM.out.mono ?_)
            rintro e w1 ⟨rfl, hb⟩
            have HB1 := Lib.hid hb
            have g1 := blk_below (HG.out) hb
            clear hb
            obtain ⟨c0, c1, c2, c3, c4, _, _⟩ := stp_cells g1
            go_wp2_with fail
            go_ret
            exact ⟨rfl, HBA.out.trans (HB1.out.mono HBA.out.size)⟩
          · have HH := Lib.hid (show headOk s = true by rw [headOk, HNMD.out, idOk, idOk, ho.out, hn.out, decide_eq_true hon]; rfl)
            have hob : (s.old.toList == s.new.toList) = false := beq_eq_false_iff_ne.2 (fun e => hon (toList_inj e))
            clear hon
            by_cases hl : 8 < s.who.length ∨ s.who.length ≠ s.seals.length
            · have hF := HF.out.trans (goodS_2 HH.out hl)
              subst hF
              by_cases h8 : 8 < s.who.length
              · have l1 : decide ((8 : Int) < (s.who.length : Int)) = true := decide_eq_true (by omega)
                go_enter Tryd.func14, Tryd.ntmps14
                go_wp2_with fail
                (with_reducible refine HNM.out.mono ?_)
                rintro e w1 ⟨rfl, hb⟩
                have HB1 := Lib.hid hb
                have g1 := blk_below (HG.out) hb
                clear hb
                obtain ⟨c0, c1, c2, c3, c4, _, _⟩ := stp_cells g1
                go_wp2_with fail
                go_ret
                exact ⟨rfl, HBA.out.trans (HB1.out.mono HBA.out.size)⟩
              · have l1 : decide ((8 : Int) < (s.who.length : Int)) = false := decide_eq_false (by omega)
                have l2 : ((s.who.length : Int) == (s.seals.length : Int)) = false := beq_eq_false_iff_ne.2 (by omega)
                have l3 : ((s.who.length : Int) != (s.seals.length : Int)) = true := by rw [bne, l2]; rfl
                go_enter Tryd.func14, Tryd.ntmps14
                go_wp2_with fail
                (with_reducible refine HNM.out.mono ?_)
                rintro e w1 ⟨rfl, hb⟩
                have HB1 := Lib.hid hb
                have g1 := blk_below (HG.out) hb
                clear hb
                obtain ⟨c0, c1, c2, c3, c4, _, _⟩ := stp_cells g1
                go_wp2_with fail
                go_ret
                exact ⟨rfl, HBA.out.trans (HB1.out.mono HBA.out.size)⟩
            · have hle : s.who.length = s.seals.length := by omega
              have l1 : decide ((8 : Int) < (s.who.length : Int)) = false := decide_eq_false (by omega)
              have l2 : ((s.who.length : Int) == (s.seals.length : Int)) = true := beq_iff_eq.2 (by omega)
              have l3 : ((s.who.length : Int) != (s.seals.length : Int)) = false := by rw [bne, l2]; rfl
              have HFE := Lib.hid (HF.out.trans (goodS_3 HH.out hl))
              have H8 := Lib.hid (show s.who.length ≤ 8 by omega)
              have HLE := Lib.hid hle
              clear hl hle
              go_enter Tryd.func14, Tryd.ntmps14
              go_wp2_with fail
              (with_reducible refine HNM.out.mono ?_)
              rintro e w1 ⟨rfl, hb⟩
              have HB1 := Lib.hid hb
              have g1 := blk_below (HG.out) hb
              clear hb
              obtain ⟨c0, c1, c2, c3, c4, _, _⟩ := stp_cells g1
              go_wp2_with fail
              have HBW := Lib.hid (HBA.out.trans (HB1.out.mono HBA.out.size))
              have hb0 := Lib.hid (Below.refl w1.heap.size w1)
              have HGG := Lib.hid (fun wr (h : Below w1.heap.size w1 wr) => blk_below g1 h)
              clear c0 c1 c2 c3 c4 g1
              go_loopw [2, 56] (fun r i wr => ∃ k : Nat, k ≤ s.who.length ∧ r = .int .i64 0 ∧ i = .int .i64 (k : Int) ∧ Hid (∀ j, j < k → rowS s j = 0) ∧ Hid (Below w1.heap.size w1 wr)) (fun _ i _ => s.who.length - (intOf i).toNat)
              case atStart => exact ⟨0, Nat.zero_le _, rfl, rfl, Lib.hid fun j hj => absurd hj (Nat.not_lt_zero _), hb0⟩
              case round =>
                obtain ⟨k, hk, rfl, rfl, HALL, HR1⟩ := hrel
                have HB := Lib.hid (HBW.out.trans (HR1.out.mono HBW.out.size))
                obtain ⟨c0, c1, c2, c3, c4, _, _⟩ := stp_cells (HGG.out _ HR1.out)
                by_cases hlt : k < s.who.length
                · have hki : (k : Int) < (s.who.length : Int) := by omega
                  have hkb : decide ((k : Int) < (s.who.length : Int)) = true := decide_eq_true hki
                  have hk0 : (0 : Int) ≤ (k : Int) := by omega
                  obtain ⟨bw, ow, hae, hblt, hcw⟩ := rdI_at HW.out (by omega)
                  obtain ⟨bs, os, hae2, hblt2, hcs⟩ := rdS_at' HS.out (by have := HLE.out; omega)
                  subst hae
                  subst hae2
                  have d0 := (HB.out.cell (p := ⟨bw, ow + k, none⟩) hblt).trans (hcw k hlt)
                  have d1 := (HB.out.cell (p := ⟨bs, os + k, none⟩) hblt2).trans (hcs k (by have := HLE.out; omega))
                  have hks : (k : Int) < (s.seals.length : Int) := by have := HLE.out; omega
                  obtain ⟨x, hx⟩ : ∃ x, x = s.who.getD k 0 := ⟨_, rfl⟩
                  obtain ⟨q, hq⟩ : ∃ q, q = s.seals.getD k noB := ⟨_, rfl⟩
                  rw [← hx] at d0
                  rw [← hq] at d1
                  have HX := Lib.hid hx
                  have HQ := Lib.hid hq
                  have HLT := Lib.hid hlt
                  have HCW := Lib.hid hcw
                  have HBL := Lib.hid hblt
                  clear hx hq hcw hcs hblt hblt2
                  by_cases x0 : x < 0
                  · have xb0 : decide (x < 0) = true := decide_eq_true x0
                    have HOK := Lib.hid (show rowS s k = 3 by unfold rowS; rw [← HX.out, if_pos (.inl x0)])
                    have hF := HFE.out.trans (firstE_at (by rw [HOK.out]; decide) (Nat.zero_le _) (by have := HLT.out; omega) (fun j _ hj => HALL.out j hj))
                    rw [HOK.out] at hF
                    subst hF
                    go_wp2_with fail
                    go_ret
                    exact ⟨rfl, HB.out⟩
                  · have xb0 : decide (x < 0) = false := decide_eq_false x0
                    by_cases x8 : 8 ≤ x
                    · have xb8 : decide (8 ≤ x) = true := decide_eq_true x8
                      have HOK := Lib.hid (show rowS s k = 3 by unfold rowS; rw [← HX.out, if_pos (.inr (.inl x8))])
                      have hF := HFE.out.trans (firstE_at (by rw [HOK.out]; decide) (Nat.zero_le _) (by have := HLT.out; omega) (fun j _ hj => HALL.out j hj))
                      rw [HOK.out] at hF
                      subst hF
                      go_wp2_with fail
                      go_ret
                      exact ⟨rfl, HB.out⟩
                    · have xb8 : decide (8 ≤ x) = false := decide_eq_false x8
                      rcases Nat.eq_zero_or_pos k with hk00 | hk00
                      · subst hk00
                        have hz0 : decide ((0 : Int) < (0 : Int)) = false := by simp
                        have HRW := Lib.hid (show ¬ (s.who.getD 0 0 < 0 ∨ 8 ≤ s.who.getD 0 0 ∨ (0 < 0 ∧ s.who.getD 0 0 ≤ s.who.getD (0 - 1) 0)) by have e := HX.out; omega)
                        have HCN := Lib.hid (show ((0 + 1 : Nat) : Int) = 1 from rfl)
                        have HMS := Lib.hid (show (1 : Int) = ((0 + 1 : Nat) : Int) from rfl)
                        simp only [Nat.add_zero] at d0 d1
                        by_cases hq : q.size = 32
                        · have hz : ((q.size : Int) == 32) = true := by rw [hq]; rfl
                          have hz2 : ((q.size : Int) != 32) = false := by rw [bne, hz]; rfl
                          have HOK := Lib.hid (show rowS s 0 = 0 from rowS_z HRW.out (by rw [← HQ.out]; exact hq))
                          clear hq
                          go_wp2_with fail
                          go_roundw
                          case rel => exact ⟨0 + 1, by have := HLT.out; omega, rfl, by (first | rfl | rw [HCN.out] | (rw [HCN.out, hw2])), Lib.hid fun j hj => by (by_cases hjk : j = 0; rw [hjk]; exact HOK.out; exact HALL.out j (by omega)), HR1⟩
                          case measure => exact meas_step _ (by first | exact HMS.out | exact hw2.symm.trans HMS.out) HLT.out
                        · have hz : ((q.size : Int) == 32) = false := beq_eq_false_iff_ne.2 (by omega)
                          have hz2 : ((q.size : Int) != 32) = true := by rw [bne, hz]; rfl
                          have HOK := Lib.hid (show rowS s 0 = 2 from rowS_t HRW.out (by rw [← HQ.out]; exact hq))
                          clear hq
                          have hF := HFE.out.trans (firstE_at (by rw [HOK.out]; decide) (Nat.zero_le _) (by have := HLT.out; omega) (fun j _ hj => HALL.out j hj))
                          rw [HOK.out] at hF
                          subst hF
                          go_wp2_with fail
                          go_ret
                          exact ⟨rfl, HB.out⟩
                      · obtain ⟨m, rfl⟩ : ∃ m, k = m + 1 := ⟨k - 1, by omega⟩
                        obtain ⟨y, hy⟩ : ∃ y, y = s.who.getD m 0 := ⟨_, rfl⟩
                        have dp := (HB.out.cell (p := ⟨bw, ow + m, none⟩) HBL.out).trans (HCW.out m (by omega))
                        rw [← hy] at dp
                        have HY := Lib.hid hy
                        have hmi : (m : Int) < (s.who.length : Int) := by omega
                        have hm0 : (0 : Int) ≤ (m : Int) := by omega
                        have hmn : m < s.who.length := by omega
                        have hmw : IntKind.i64.wrap (m : Int) = (m : Int) := by rw [IntKind.wrap_i64]; have := H8.out; omega
                        have hpos : decide ((0 : Int) < ((m + 1 : Nat) : Int)) = true := decide_eq_true (by omega)
                        clear hy
                        by_cases hxy : x ≤ y
                        · have xyb : decide (x ≤ y) = true := decide_eq_true hxy
                          have HOK := Lib.hid (show rowS s (m + 1) = 3 by unfold rowS; rw [← HX.out, Nat.add_sub_cancel, ← HY.out, if_pos (.inr (.inr ⟨by omega, hxy⟩))])
                          have hF := HFE.out.trans (firstE_at (by rw [HOK.out]; decide) (Nat.zero_le _) (by have := HLT.out; omega) (fun j _ hj => HALL.out j hj))
                          rw [HOK.out] at hF
                          subst hF
                          go_wp2_with fail
                          go_ret
                          exact ⟨rfl, HB.out⟩
                        · have xyb : decide (x ≤ y) = false := decide_eq_false hxy
                          have HRW := Lib.hid (show ¬ (s.who.getD (m + 1) 0 < 0 ∨ 8 ≤ s.who.getD (m + 1) 0 ∨ (0 < m + 1 ∧ s.who.getD (m + 1) 0 ≤ s.who.getD (m + 1 - 1) 0)) by rw [Nat.add_sub_cancel]; have e := HX.out; have e2 := HY.out; omega)
                          have hw2 : wrap64 ((m : Int) + 1 + 1) = (m : Int) + 1 + 1 := IntWalk.wrap64_in _ (by have := H8.out; omega)
                          have HCN := Lib.hid (show ((m + 1 + 1 : Nat) : Int) = wrap64 ((m : Int) + 1 + 1) by rw [hw2]; omega)
                          have HMS := Lib.hid (show wrap64 ((m : Int) + 1 + 1) = ((m + 1 + 1 : Nat) : Int) from HCN.out.symm)
                          by_cases hq : q.size = 32
                          · have hz : ((q.size : Int) == 32) = true := by rw [hq]; rfl
                            have hz2 : ((q.size : Int) != 32) = false := by rw [bne, hz]; rfl
                            have HOK := Lib.hid (show rowS s (m + 1) = 0 from rowS_z HRW.out (by rw [← HQ.out]; exact hq))
                            clear hq
                            go_wp2_with fail
                            go_roundw
                            case rel => exact ⟨m + 1 + 1, by have := HLT.out; omega, rfl, by (first | rfl | rw [HCN.out] | (rw [HCN.out, hw2])), Lib.hid fun j hj => by (by_cases hjk : j = m + 1; rw [hjk]; exact HOK.out; exact HALL.out j (by omega)), HR1⟩
                            case measure => exact meas_step _ (by first | exact HMS.out | exact hw2.symm.trans HMS.out) HLT.out
                          · have hz : ((q.size : Int) == 32) = false := beq_eq_false_iff_ne.2 (by omega)
                            have hz2 : ((q.size : Int) != 32) = true := by rw [bne, hz]; rfl
                            have HOK := Lib.hid (show rowS s (m + 1) = 2 from rowS_t HRW.out (by rw [← HQ.out]; exact hq))
                            clear hq
                            have hF := HFE.out.trans (firstE_at (by rw [HOK.out]; decide) (Nat.zero_le _) (by have := HLT.out; omega) (fun j _ hj => HALL.out j hj))
                            rw [HOK.out] at hF
                            subst hF
                            go_wp2_with fail
                            go_ret
                            exact ⟨rfl, HB.out⟩
                · have hkn : k = s.who.length := by omega
                  have hkb : decide ((k : Int) < (s.who.length : Int)) = false := decide_eq_false (by omega)
                  have hF := HFE.out.trans (firstE_all (fun j _ hj => HALL.out j (by omega)))
                  subst hF
                  go_wp2_with fail
                  go_ret
                  exact ⟨rfl, HB.out⟩
        · have HH := Lib.hid (show headOk s = false by rw [headOk, idOk, idOk, decide_eq_false hne, decide_eq_false hnf]; simp)
          have hF := HF.out.trans (goodS_1 HH.out)
          subst hF
          have ne0 : ((s.new.size : Int) == 0) = false := beq_eq_false_iff_ne.2 (by omega)
          have nn0 : ((s.new.size : Int) != 0) = true := by rw [bne, ne0]; rfl
          have ne32 : ((s.new.size : Int) == 32) = false := beq_eq_false_iff_ne.2 (by omega)
          have nn32 : ((s.new.size : Int) != 32) = true := by rw [bne, ne32]; rfl
          clear hne hnf
          go_enter Tryd.func14, Tryd.ntmps14
          go_wp2_with fail
          (with_reducible refine HNM.out.mono ?_)
          rintro e w1 ⟨rfl, hb⟩
          have HB1 := Lib.hid hb
          have g1 := blk_below (HG.out) hb
          clear hb
          obtain ⟨c0, c1, c2, c3, c4, _, _⟩ := stp_cells g1
          go_wp2_with fail
          go_ret
          exact ⟨rfl, HBA.out.trans (HB1.out.mono HBA.out.size)⟩
    · by_cases hof : s.old.size = 32
      · have hoe := hof
        have ho := Lib.hid hoe
        have oe0 : ((s.old.size : Int) == 0) = false := beq_eq_false_iff_ne.2 (by omega)
        have on0 : ((s.old.size : Int) != 0) = true := by rw [bne, oe0]; rfl
        have oe32 : ((s.old.size : Int) == 32) = true := by rw [hoe]; rfl
        have on32 : ((s.old.size : Int) != 32) = false := by rw [bne, oe32]; rfl
        clear hof hoe
        by_cases hne : s.new.size = 0
        · have hn := Lib.hid hne
          have ne0 : ((s.new.size : Int) == 0) = true := by rw [hne]; rfl
          have nn0 : ((s.new.size : Int) != 0) = false := by rw [bne, ne0]; rfl
          have ne32 : ((s.new.size : Int) == 32) = false := beq_eq_false_iff_ne.2 (by omega)
          have nn32 : ((s.new.size : Int) != 32) = true := by rw [bne, ne32]; rfl
          clear hne
          by_cases hon : s.old = s.new
          · have HH := Lib.hid (show headOk s = false by rw [headOk, hon]; simp)
            have hF := HF.out.trans (goodS_1 HH.out)
            subst hF
            have hob : (s.old.toList == s.new.toList) = true := by rw [hon]; exact beq_self_eq_true _
            clear hon
            go_enter Tryd.func14, Tryd.ntmps14
            go_wp2_with fail
            (with_reducible refine HNM.out.mono ?_)
            rintro e w1 ⟨rfl, hb⟩
            have HB1 := Lib.hid hb
            have g1 := blk_below (HG.out) hb
            clear hb
            obtain ⟨c0, c1, c2, c3, c4, _, _⟩ := stp_cells g1
            go_wp2_with fail
            go_ret
            exact ⟨rfl, HBA.out.trans (HB1.out.mono HBA.out.size)⟩
          · have HH := Lib.hid (show headOk s = true by rw [headOk, HNMD.out, idOk, idOk, ho.out, hn.out, decide_eq_true hon]; rfl)
            have hob : (s.old.toList == s.new.toList) = false := beq_eq_false_iff_ne.2 (fun e => hon (toList_inj e))
            clear hon
            by_cases hl : 8 < s.who.length ∨ s.who.length ≠ s.seals.length
            · have hF := HF.out.trans (goodS_2 HH.out hl)
              subst hF
              by_cases h8 : 8 < s.who.length
              · have l1 : decide ((8 : Int) < (s.who.length : Int)) = true := decide_eq_true (by omega)
                go_enter Tryd.func14, Tryd.ntmps14
                go_wp2_with fail
                (with_reducible refine HNM.out.mono ?_)
                rintro e w1 ⟨rfl, hb⟩
                have HB1 := Lib.hid hb
                have g1 := blk_below (HG.out) hb
                clear hb
                obtain ⟨c0, c1, c2, c3, c4, _, _⟩ := stp_cells g1
                go_wp2_with fail
                go_ret
                exact ⟨rfl, HBA.out.trans (HB1.out.mono HBA.out.size)⟩
              · have l1 : decide ((8 : Int) < (s.who.length : Int)) = false := decide_eq_false (by omega)
                have l2 : ((s.who.length : Int) == (s.seals.length : Int)) = false := beq_eq_false_iff_ne.2 (by omega)
                have l3 : ((s.who.length : Int) != (s.seals.length : Int)) = true := by rw [bne, l2]; rfl
                go_enter Tryd.func14, Tryd.ntmps14
                go_wp2_with fail
                (with_reducible refine HNM.out.mono ?_)
                rintro e w1 ⟨rfl, hb⟩
                have HB1 := Lib.hid hb
                have g1 := blk_below (HG.out) hb
                clear hb
                obtain ⟨c0, c1, c2, c3, c4, _, _⟩ := stp_cells g1
                go_wp2_with fail
                go_ret
                exact ⟨rfl, HBA.out.trans (HB1.out.mono HBA.out.size)⟩
            · have hle : s.who.length = s.seals.length := by omega
              have l1 : decide ((8 : Int) < (s.who.length : Int)) = false := decide_eq_false (by omega)
              have l2 : ((s.who.length : Int) == (s.seals.length : Int)) = true := beq_iff_eq.2 (by omega)
              have l3 : ((s.who.length : Int) != (s.seals.length : Int)) = false := by rw [bne, l2]; rfl
              have HFE := Lib.hid (HF.out.trans (goodS_3 HH.out hl))
              have H8 := Lib.hid (show s.who.length ≤ 8 by omega)
              have HLE := Lib.hid hle
              clear hl hle
              go_enter Tryd.func14, Tryd.ntmps14
              go_wp2_with fail
              (with_reducible refine HNM.out.mono ?_)
              rintro e w1 ⟨rfl, hb⟩
              have HB1 := Lib.hid hb
              have g1 := blk_below (HG.out) hb
              clear hb
              obtain ⟨c0, c1, c2, c3, c4, _, _⟩ := stp_cells g1
              go_wp2_with fail
              have HBW := Lib.hid (HBA.out.trans (HB1.out.mono HBA.out.size))
              have hb0 := Lib.hid (Below.refl w1.heap.size w1)
              have HGG := Lib.hid (fun wr (h : Below w1.heap.size w1 wr) => blk_below g1 h)
              clear c0 c1 c2 c3 c4 g1
              go_loopw [2, 56] (fun r i wr => ∃ k : Nat, k ≤ s.who.length ∧ r = .int .i64 0 ∧ i = .int .i64 (k : Int) ∧ Hid (∀ j, j < k → rowS s j = 0) ∧ Hid (Below w1.heap.size w1 wr)) (fun _ i _ => s.who.length - (intOf i).toNat)
              case atStart => exact ⟨0, Nat.zero_le _, rfl, rfl, Lib.hid fun j hj => absurd hj (Nat.not_lt_zero _), hb0⟩
              case round =>
                obtain ⟨k, hk, rfl, rfl, HALL, HR1⟩ := hrel
                have HB := Lib.hid (HBW.out.trans (HR1.out.mono HBW.out.size))
                obtain ⟨c0, c1, c2, c3, c4, _, _⟩ := stp_cells (HGG.out _ HR1.out)
                by_cases hlt : k < s.who.length
                · have hki : (k : Int) < (s.who.length : Int) := by omega
                  have hkb : decide ((k : Int) < (s.who.length : Int)) = true := decide_eq_true hki
                  have hk0 : (0 : Int) ≤ (k : Int) := by omega
                  obtain ⟨bw, ow, hae, hblt, hcw⟩ := rdI_at HW.out (by omega)
                  obtain ⟨bs, os, hae2, hblt2, hcs⟩ := rdS_at' HS.out (by have := HLE.out; omega)
                  subst hae
                  subst hae2
                  have d0 := (HB.out.cell (p := ⟨bw, ow + k, none⟩) hblt).trans (hcw k hlt)
                  have d1 := (HB.out.cell (p := ⟨bs, os + k, none⟩) hblt2).trans (hcs k (by have := HLE.out; omega))
                  have hks : (k : Int) < (s.seals.length : Int) := by have := HLE.out; omega
                  obtain ⟨x, hx⟩ : ∃ x, x = s.who.getD k 0 := ⟨_, rfl⟩
                  obtain ⟨q, hq⟩ : ∃ q, q = s.seals.getD k noB := ⟨_, rfl⟩
                  rw [← hx] at d0
                  rw [← hq] at d1
                  have HX := Lib.hid hx
                  have HQ := Lib.hid hq
                  have HLT := Lib.hid hlt
                  have HCW := Lib.hid hcw
                  have HBL := Lib.hid hblt
                  clear hx hq hcw hcs hblt hblt2
                  by_cases x0 : x < 0
                  · have xb0 : decide (x < 0) = true := decide_eq_true x0
                    have HOK := Lib.hid (show rowS s k = 3 by unfold rowS; rw [← HX.out, if_pos (.inl x0)])
                    have hF := HFE.out.trans (firstE_at (by rw [HOK.out]; decide) (Nat.zero_le _) (by have := HLT.out; omega) (fun j _ hj => HALL.out j hj))
                    rw [HOK.out] at hF
                    subst hF
                    go_wp2_with fail
                    go_ret
                    exact ⟨rfl, HB.out⟩
                  · have xb0 : decide (x < 0) = false := decide_eq_false x0
                    by_cases x8 : 8 ≤ x
                    · have xb8 : decide (8 ≤ x) = true := decide_eq_true x8
                      have HOK := Lib.hid (show rowS s k = 3 by unfold rowS; rw [← HX.out, if_pos (.inr (.inl x8))])
                      have hF := HFE.out.trans (firstE_at (by rw [HOK.out]; decide) (Nat.zero_le _) (by have := HLT.out; omega) (fun j _ hj => HALL.out j hj))
                      rw [HOK.out] at hF
                      subst hF
                      go_wp2_with fail
                      go_ret
                      exact ⟨rfl, HB.out⟩
                    · have xb8 : decide (8 ≤ x) = false := decide_eq_false x8
                      rcases Nat.eq_zero_or_pos k with hk00 | hk00
                      · subst hk00
                        have hz0 : decide ((0 : Int) < (0 : Int)) = false := by simp
                        have HRW := Lib.hid (show ¬ (s.who.getD 0 0 < 0 ∨ 8 ≤ s.who.getD 0 0 ∨ (0 < 0 ∧ s.who.getD 0 0 ≤ s.who.getD (0 - 1) 0)) by have e := HX.out; omega)
                        have HCN := Lib.hid (show ((0 + 1 : Nat) : Int) = 1 from rfl)
                        have HMS := Lib.hid (show (1 : Int) = ((0 + 1 : Nat) : Int) from rfl)
                        simp only [Nat.add_zero] at d0 d1
                        by_cases hq : q.size = 32
                        · have hz : ((q.size : Int) == 32) = true := by rw [hq]; rfl
                          have hz2 : ((q.size : Int) != 32) = false := by rw [bne, hz]; rfl
                          have HOK := Lib.hid (show rowS s 0 = 0 from rowS_z HRW.out (by rw [← HQ.out]; exact hq))
                          clear hq
                          go_wp2_with fail
                          go_roundw
                          case rel => exact ⟨0 + 1, by have := HLT.out; omega, rfl, by (first | rfl | rw [HCN.out] | (rw [HCN.out, hw2])), Lib.hid fun j hj => by (by_cases hjk : j = 0; rw [hjk]; exact HOK.out; exact HALL.out j (by omega)), HR1⟩
                          case measure => exact meas_step _ (by first | exact HMS.out | exact hw2.symm.trans HMS.out) HLT.out
                        · have hz : ((q.size : Int) == 32) = false := beq_eq_false_iff_ne.2 (by omega)
                          have hz2 : ((q.size : Int) != 32) = true := by rw [bne, hz]; rfl
                          have HOK := Lib.hid (show rowS s 0 = 2 from rowS_t HRW.out (by rw [← HQ.out]; exact hq))
                          clear hq
                          have hF := HFE.out.trans (firstE_at (by rw [HOK.out]; decide) (Nat.zero_le _) (by have := HLT.out; omega) (fun j _ hj => HALL.out j hj))
                          rw [HOK.out] at hF
                          subst hF
                          go_wp2_with fail
                          go_ret
                          exact ⟨rfl, HB.out⟩
                      · obtain ⟨m, rfl⟩ : ∃ m, k = m + 1 := ⟨k - 1, by omega⟩
                        obtain ⟨y, hy⟩ : ∃ y, y = s.who.getD m 0 := ⟨_, rfl⟩
                        have dp := (HB.out.cell (p := ⟨bw, ow + m, none⟩) HBL.out).trans (HCW.out m (by omega))
                        rw [← hy] at dp
                        have HY := Lib.hid hy
                        have hmi : (m : Int) < (s.who.length : Int) := by omega
                        have hm0 : (0 : Int) ≤ (m : Int) := by omega
                        have hmn : m < s.who.length := by omega
                        have hmw : IntKind.i64.wrap (m : Int) = (m : Int) := by rw [IntKind.wrap_i64]; have := H8.out; omega
                        have hpos : decide ((0 : Int) < ((m + 1 : Nat) : Int)) = true := decide_eq_true (by omega)
                        clear hy
                        by_cases hxy : x ≤ y
                        · have xyb : decide (x ≤ y) = true := decide_eq_true hxy
                          have HOK := Lib.hid (show rowS s (m + 1) = 3 by unfold rowS; rw [← HX.out, Nat.add_sub_cancel, ← HY.out, if_pos (.inr (.inr ⟨by omega, hxy⟩))])
                          have hF := HFE.out.trans (firstE_at (by rw [HOK.out]; decide) (Nat.zero_le _) (by have := HLT.out; omega) (fun j _ hj => HALL.out j hj))
                          rw [HOK.out] at hF
                          subst hF
                          go_wp2_with fail
                          go_ret
                          exact ⟨rfl, HB.out⟩
                        · have xyb : decide (x ≤ y) = false := decide_eq_false hxy
                          have HRW := Lib.hid (show ¬ (s.who.getD (m + 1) 0 < 0 ∨ 8 ≤ s.who.getD (m + 1) 0 ∨ (0 < m + 1 ∧ s.who.getD (m + 1) 0 ≤ s.who.getD (m + 1 - 1) 0)) by rw [Nat.add_sub_cancel]; have e := HX.out; have e2 := HY.out; omega)
                          have hw2 : wrap64 ((m : Int) + 1 + 1) = (m : Int) + 1 + 1 := IntWalk.wrap64_in _ (by have := H8.out; omega)
                          have HCN := Lib.hid (show ((m + 1 + 1 : Nat) : Int) = wrap64 ((m : Int) + 1 + 1) by rw [hw2]; omega)
                          have HMS := Lib.hid (show wrap64 ((m : Int) + 1 + 1) = ((m + 1 + 1 : Nat) : Int) from HCN.out.symm)
                          by_cases hq : q.size = 32
                          · have hz : ((q.size : Int) == 32) = true := by rw [hq]; rfl
                            have hz2 : ((q.size : Int) != 32) = false := by rw [bne, hz]; rfl
                            have HOK := Lib.hid (show rowS s (m + 1) = 0 from rowS_z HRW.out (by rw [← HQ.out]; exact hq))
                            clear hq
                            go_wp2_with fail
                            go_roundw
                            case rel => exact ⟨m + 1 + 1, by have := HLT.out; omega, rfl, by (first | rfl | rw [HCN.out] | (rw [HCN.out, hw2])), Lib.hid fun j hj => by (by_cases hjk : j = m + 1; rw [hjk]; exact HOK.out; exact HALL.out j (by omega)), HR1⟩
                            case measure => exact meas_step _ (by first | exact HMS.out | exact hw2.symm.trans HMS.out) HLT.out
                          · have hz : ((q.size : Int) == 32) = false := beq_eq_false_iff_ne.2 (by omega)
                            have hz2 : ((q.size : Int) != 32) = true := by rw [bne, hz]; rfl
                            have HOK := Lib.hid (show rowS s (m + 1) = 2 from rowS_t HRW.out (by rw [← HQ.out]; exact hq))
                            clear hq
                            have hF := HFE.out.trans (firstE_at (by rw [HOK.out]; decide) (Nat.zero_le _) (by have := HLT.out; omega) (fun j _ hj => HALL.out j hj))
                            rw [HOK.out] at hF
                            subst hF
                            go_wp2_with fail
                            go_ret
                            exact ⟨rfl, HB.out⟩
                · have hkn : k = s.who.length := by omega
                  have hkb : decide ((k : Int) < (s.who.length : Int)) = false := decide_eq_false (by omega)
                  have hF := HFE.out.trans (firstE_all (fun j _ hj => HALL.out j (by omega)))
                  subst hF
                  go_wp2_with fail
                  go_ret
                  exact ⟨rfl, HB.out⟩
        · by_cases hnf : s.new.size = 32
          · have hne := hnf
            have hn := Lib.hid hne
            have ne0 : ((s.new.size : Int) == 0) = false := beq_eq_false_iff_ne.2 (by omega)
            have nn0 : ((s.new.size : Int) != 0) = true := by rw [bne, ne0]; rfl
            have ne32 : ((s.new.size : Int) == 32) = true := by rw [hne]; rfl
            have nn32 : ((s.new.size : Int) != 32) = false := by rw [bne, ne32]; rfl
            clear hnf hne
            by_cases hon : s.old = s.new
            · have HH := Lib.hid (show headOk s = false by rw [headOk, hon]; simp)
              have hF := HF.out.trans (goodS_1 HH.out)
              subst hF
              have hob : (s.old.toList == s.new.toList) = true := by rw [hon]; exact beq_self_eq_true _
              clear hon
              go_enter Tryd.func14, Tryd.ntmps14
              go_wp2_with fail
              (with_reducible refine HNM.out.mono ?_)
              rintro e w1 ⟨rfl, hb⟩
              have HB1 := Lib.hid hb
              have g1 := blk_below (HG.out) hb
              clear hb
              obtain ⟨c0, c1, c2, c3, c4, _, _⟩ := stp_cells g1
              go_wp2_with fail
              go_ret
              exact ⟨rfl, HBA.out.trans (HB1.out.mono HBA.out.size)⟩
            · have HH := Lib.hid (show headOk s = true by rw [headOk, HNMD.out, idOk, idOk, ho.out, hn.out, decide_eq_true hon]; rfl)
              have hob : (s.old.toList == s.new.toList) = false := beq_eq_false_iff_ne.2 (fun e => hon (toList_inj e))
              clear hon
              by_cases hl : 8 < s.who.length ∨ s.who.length ≠ s.seals.length
              · have hF := HF.out.trans (goodS_2 HH.out hl)
                subst hF
                by_cases h8 : 8 < s.who.length
                · have l1 : decide ((8 : Int) < (s.who.length : Int)) = true := decide_eq_true (by omega)
                  go_enter Tryd.func14, Tryd.ntmps14
                  go_wp2_with fail
                  (with_reducible refine HNM.out.mono ?_)
                  rintro e w1 ⟨rfl, hb⟩
                  have HB1 := Lib.hid hb
                  have g1 := blk_below (HG.out) hb
                  clear hb
                  obtain ⟨c0, c1, c2, c3, c4, _, _⟩ := stp_cells g1
                  go_wp2_with fail
                  go_ret
                  exact ⟨rfl, HBA.out.trans (HB1.out.mono HBA.out.size)⟩
                · have l1 : decide ((8 : Int) < (s.who.length : Int)) = false := decide_eq_false (by omega)
                  have l2 : ((s.who.length : Int) == (s.seals.length : Int)) = false := beq_eq_false_iff_ne.2 (by omega)
                  have l3 : ((s.who.length : Int) != (s.seals.length : Int)) = true := by rw [bne, l2]; rfl
                  go_enter Tryd.func14, Tryd.ntmps14
                  go_wp2_with fail
                  (with_reducible refine HNM.out.mono ?_)
                  rintro e w1 ⟨rfl, hb⟩
                  have HB1 := Lib.hid hb
                  have g1 := blk_below (HG.out) hb
                  clear hb
                  obtain ⟨c0, c1, c2, c3, c4, _, _⟩ := stp_cells g1
                  go_wp2_with fail
                  go_ret
                  exact ⟨rfl, HBA.out.trans (HB1.out.mono HBA.out.size)⟩
              · have hle : s.who.length = s.seals.length := by omega
                have l1 : decide ((8 : Int) < (s.who.length : Int)) = false := decide_eq_false (by omega)
                have l2 : ((s.who.length : Int) == (s.seals.length : Int)) = true := beq_iff_eq.2 (by omega)
                have l3 : ((s.who.length : Int) != (s.seals.length : Int)) = false := by rw [bne, l2]; rfl
                have HFE := Lib.hid (HF.out.trans (goodS_3 HH.out hl))
                have H8 := Lib.hid (show s.who.length ≤ 8 by omega)
                have HLE := Lib.hid hle
                clear hl hle
                go_enter Tryd.func14, Tryd.ntmps14
                go_wp2_with fail
                (with_reducible refine HNM.out.mono ?_)
                rintro e w1 ⟨rfl, hb⟩
                have HB1 := Lib.hid hb
                have g1 := blk_below (HG.out) hb
                clear hb
                obtain ⟨c0, c1, c2, c3, c4, _, _⟩ := stp_cells g1
                go_wp2_with fail
                have HBW := Lib.hid (HBA.out.trans (HB1.out.mono HBA.out.size))
                have hb0 := Lib.hid (Below.refl w1.heap.size w1)
                have HGG := Lib.hid (fun wr (h : Below w1.heap.size w1 wr) => blk_below g1 h)
                clear c0 c1 c2 c3 c4 g1
                go_loopw [2, 56] (fun r i wr => ∃ k : Nat, k ≤ s.who.length ∧ r = .int .i64 0 ∧ i = .int .i64 (k : Int) ∧ Hid (∀ j, j < k → rowS s j = 0) ∧ Hid (Below w1.heap.size w1 wr)) (fun _ i _ => s.who.length - (intOf i).toNat)
                case atStart => exact ⟨0, Nat.zero_le _, rfl, rfl, Lib.hid fun j hj => absurd hj (Nat.not_lt_zero _), hb0⟩
                case round =>
                  obtain ⟨k, hk, rfl, rfl, HALL, HR1⟩ := hrel
                  have HB := Lib.hid (HBW.out.trans (HR1.out.mono HBW.out.size))
                  obtain ⟨c0, c1, c2, c3, c4, _, _⟩ := stp_cells (HGG.out _ HR1.out)
                  by_cases hlt : k < s.who.length
                  · have hki : (k : Int) < (s.who.length : Int) := by omega
                    have hkb : decide ((k : Int) < (s.who.length : Int)) = true := decide_eq_true hki
                    have hk0 : (0 : Int) ≤ (k : Int) := by omega
                    obtain ⟨bw, ow, hae, hblt, hcw⟩ := rdI_at HW.out (by omega)
                    obtain ⟨bs, os, hae2, hblt2, hcs⟩ := rdS_at' HS.out (by have := HLE.out; omega)
                    subst hae
                    subst hae2
                    have d0 := (HB.out.cell (p := ⟨bw, ow + k, none⟩) hblt).trans (hcw k hlt)
                    have d1 := (HB.out.cell (p := ⟨bs, os + k, none⟩) hblt2).trans (hcs k (by have := HLE.out; omega))
                    have hks : (k : Int) < (s.seals.length : Int) := by have := HLE.out; omega
                    obtain ⟨x, hx⟩ : ∃ x, x = s.who.getD k 0 := ⟨_, rfl⟩
                    obtain ⟨q, hq⟩ : ∃ q, q = s.seals.getD k noB := ⟨_, rfl⟩
                    rw [← hx] at d0
                    rw [← hq] at d1
                    have HX := Lib.hid hx
                    have HQ := Lib.hid hq
                    have HLT := Lib.hid hlt
                    have HCW := Lib.hid hcw
                    have HBL := Lib.hid hblt
                    clear hx hq hcw hcs hblt hblt2
                    by_cases x0 : x < 0
                    · have xb0 : decide (x < 0) = true := decide_eq_true x0
                      have HOK := Lib.hid (show rowS s k = 3 by unfold rowS; rw [← HX.out, if_pos (.inl x0)])
                      have hF := HFE.out.trans (firstE_at (by rw [HOK.out]; decide) (Nat.zero_le _) (by have := HLT.out; omega) (fun j _ hj => HALL.out j hj))
                      rw [HOK.out] at hF
                      subst hF
                      go_wp2_with fail
                      go_ret
                      exact ⟨rfl, HB.out⟩
                    · have xb0 : decide (x < 0) = false := decide_eq_false x0
                      by_cases x8 : 8 ≤ x
                      · have xb8 : decide (8 ≤ x) = true := decide_eq_true x8
                        have HOK := Lib.hid (show rowS s k = 3 by unfold rowS; rw [← HX.out, if_pos (.inr (.inl x8))])
                        have hF := HFE.out.trans (firstE_at (by rw [HOK.out]; decide) (Nat.zero_le _) (by have := HLT.out; omega) (fun j _ hj => HALL.out j hj))
                        rw [HOK.out] at hF
                        subst hF
                        go_wp2_with fail
                        go_ret
                        exact ⟨rfl, HB.out⟩
                      · have xb8 : decide (8 ≤ x) = false := decide_eq_false x8
                        rcases Nat.eq_zero_or_pos k with hk00 | hk00
                        · subst hk00
                          have hz0 : decide ((0 : Int) < (0 : Int)) = false := by simp
                          have HRW := Lib.hid (show ¬ (s.who.getD 0 0 < 0 ∨ 8 ≤ s.who.getD 0 0 ∨ (0 < 0 ∧ s.who.getD 0 0 ≤ s.who.getD (0 - 1) 0)) by have e := HX.out; omega)
                          have HCN := Lib.hid (show ((0 + 1 : Nat) : Int) = 1 from rfl)
                          have HMS := Lib.hid (show (1 : Int) = ((0 + 1 : Nat) : Int) from rfl)
                          simp only [Nat.add_zero] at d0 d1
                          by_cases hq : q.size = 32
                          · have hz : ((q.size : Int) == 32) = true := by rw [hq]; rfl
                            have hz2 : ((q.size : Int) != 32) = false := by rw [bne, hz]; rfl
                            have HOK := Lib.hid (show rowS s 0 = 0 from rowS_z HRW.out (by rw [← HQ.out]; exact hq))
                            clear hq
                            go_wp2_with fail
                            go_roundw
                            case rel => exact ⟨0 + 1, by have := HLT.out; omega, rfl, by (first | rfl | rw [HCN.out] | (rw [HCN.out, hw2])), Lib.hid fun j hj => by (by_cases hjk : j = 0; rw [hjk]; exact HOK.out; exact HALL.out j (by omega)), HR1⟩
                            case measure => exact meas_step _ (by first | exact HMS.out | exact hw2.symm.trans HMS.out) HLT.out
                          · have hz : ((q.size : Int) == 32) = false := beq_eq_false_iff_ne.2 (by omega)
                            have hz2 : ((q.size : Int) != 32) = true := by rw [bne, hz]; rfl
                            have HOK := Lib.hid (show rowS s 0 = 2 from rowS_t HRW.out (by rw [← HQ.out]; exact hq))
                            clear hq
                            have hF := HFE.out.trans (firstE_at (by rw [HOK.out]; decide) (Nat.zero_le _) (by have := HLT.out; omega) (fun j _ hj => HALL.out j hj))
                            rw [HOK.out] at hF
                            subst hF
                            go_wp2_with fail
                            go_ret
                            exact ⟨rfl, HB.out⟩
                        · obtain ⟨m, rfl⟩ : ∃ m, k = m + 1 := ⟨k - 1, by omega⟩
                          obtain ⟨y, hy⟩ : ∃ y, y = s.who.getD m 0 := ⟨_, rfl⟩
                          have dp := (HB.out.cell (p := ⟨bw, ow + m, none⟩) HBL.out).trans (HCW.out m (by omega))
                          rw [← hy] at dp
                          have HY := Lib.hid hy
                          have hmi : (m : Int) < (s.who.length : Int) := by omega
                          have hm0 : (0 : Int) ≤ (m : Int) := by omega
                          have hmn : m < s.who.length := by omega
                          have hmw : IntKind.i64.wrap (m : Int) = (m : Int) := by rw [IntKind.wrap_i64]; have := H8.out; omega
                          have hpos : decide ((0 : Int) < ((m + 1 : Nat) : Int)) = true := decide_eq_true (by omega)
                          clear hy
                          by_cases hxy : x ≤ y
                          · have xyb : decide (x ≤ y) = true := decide_eq_true hxy
                            have HOK := Lib.hid (show rowS s (m + 1) = 3 by unfold rowS; rw [← HX.out, Nat.add_sub_cancel, ← HY.out, if_pos (.inr (.inr ⟨by omega, hxy⟩))])
                            have hF := HFE.out.trans (firstE_at (by rw [HOK.out]; decide) (Nat.zero_le _) (by have := HLT.out; omega) (fun j _ hj => HALL.out j hj))
                            rw [HOK.out] at hF
                            subst hF
                            go_wp2_with fail
                            go_ret
                            exact ⟨rfl, HB.out⟩
                          · have xyb : decide (x ≤ y) = false := decide_eq_false hxy
                            have HRW := Lib.hid (show ¬ (s.who.getD (m + 1) 0 < 0 ∨ 8 ≤ s.who.getD (m + 1) 0 ∨ (0 < m + 1 ∧ s.who.getD (m + 1) 0 ≤ s.who.getD (m + 1 - 1) 0)) by rw [Nat.add_sub_cancel]; have e := HX.out; have e2 := HY.out; omega)
                            have hw2 : wrap64 ((m : Int) + 1 + 1) = (m : Int) + 1 + 1 := IntWalk.wrap64_in _ (by have := H8.out; omega)
                            have HCN := Lib.hid (show ((m + 1 + 1 : Nat) : Int) = wrap64 ((m : Int) + 1 + 1) by rw [hw2]; omega)
                            have HMS := Lib.hid (show wrap64 ((m : Int) + 1 + 1) = ((m + 1 + 1 : Nat) : Int) from HCN.out.symm)
                            by_cases hq : q.size = 32
                            · have hz : ((q.size : Int) == 32) = true := by rw [hq]; rfl
                              have hz2 : ((q.size : Int) != 32) = false := by rw [bne, hz]; rfl
                              have HOK := Lib.hid (show rowS s (m + 1) = 0 from rowS_z HRW.out (by rw [← HQ.out]; exact hq))
                              clear hq
                              go_wp2_with fail
                              go_roundw
                              case rel => exact ⟨m + 1 + 1, by have := HLT.out; omega, rfl, by (first | rfl | rw [HCN.out] | (rw [HCN.out, hw2])), Lib.hid fun j hj => by (by_cases hjk : j = m + 1; rw [hjk]; exact HOK.out; exact HALL.out j (by omega)), HR1⟩
                              case measure => exact meas_step _ (by first | exact HMS.out | exact hw2.symm.trans HMS.out) HLT.out
                            · have hz : ((q.size : Int) == 32) = false := beq_eq_false_iff_ne.2 (by omega)
                              have hz2 : ((q.size : Int) != 32) = true := by rw [bne, hz]; rfl
                              have HOK := Lib.hid (show rowS s (m + 1) = 2 from rowS_t HRW.out (by rw [← HQ.out]; exact hq))
                              clear hq
                              have hF := HFE.out.trans (firstE_at (by rw [HOK.out]; decide) (Nat.zero_le _) (by have := HLT.out; omega) (fun j _ hj => HALL.out j hj))
                              rw [HOK.out] at hF
                              subst hF
                              go_wp2_with fail
                              go_ret
                              exact ⟨rfl, HB.out⟩
                  · have hkn : k = s.who.length := by omega
                    have hkb : decide ((k : Int) < (s.who.length : Int)) = false := decide_eq_false (by omega)
                    have hF := HFE.out.trans (firstE_all (fun j _ hj => HALL.out j (by omega)))
                    subst hF
                    go_wp2_with fail
                    go_ret
                    exact ⟨rfl, HB.out⟩
          · have HH := Lib.hid (show headOk s = false by rw [headOk, idOk, idOk, decide_eq_false hne, decide_eq_false hnf]; simp)
            have hF := HF.out.trans (goodS_1 HH.out)
            subst hF
            have ne0 : ((s.new.size : Int) == 0) = false := beq_eq_false_iff_ne.2 (by omega)
            have nn0 : ((s.new.size : Int) != 0) = true := by rw [bne, ne0]; rfl
            have ne32 : ((s.new.size : Int) == 32) = false := beq_eq_false_iff_ne.2 (by omega)
            have nn32 : ((s.new.size : Int) != 32) = true := by rw [bne, ne32]; rfl
            clear hne hnf
            go_enter Tryd.func14, Tryd.ntmps14
            go_wp2_with fail
            (with_reducible refine HNM.out.mono ?_)
            rintro e w1 ⟨rfl, hb⟩
            have HB1 := Lib.hid hb
            have g1 := blk_below (HG.out) hb
            clear hb
            obtain ⟨c0, c1, c2, c3, c4, _, _⟩ := stp_cells g1
            go_wp2_with fail
            go_ret
            exact ⟨rfl, HBA.out.trans (HB1.out.mono HBA.out.size)⟩
      · have HH := Lib.hid (show headOk s = false by rw [headOk, idOk, decide_eq_false hoe, decide_eq_false hof]; simp)
        have hF := HF.out.trans (goodS_1 HH.out)
        subst hF
        have oe0 : ((s.old.size : Int) == 0) = false := beq_eq_false_iff_ne.2 (by omega)
        have on0 : ((s.old.size : Int) != 0) = true := by rw [bne, oe0]; rfl
        have oe32 : ((s.old.size : Int) == 32) = false := beq_eq_false_iff_ne.2 (by omega)
        have on32 : ((s.old.size : Int) != 32) = true := by rw [bne, oe32]; rfl
        clear hoe hof
        go_enter Tryd.func14, Tryd.ntmps14
        go_wp2_with fail
        (with_reducible refine HNM.out.mono ?_)
        rintro e w1 ⟨rfl, hb⟩
        have HB1 := Lib.hid hb
        have g1 := blk_below (HG.out) hb
        clear hb
        obtain ⟨c0, c1, c2, c3, c4, _, _⟩ := stp_cells g1
        go_wp2_with fail
        go_ret
        exact ⟨rfl, HBA.out.trans (HB1.out.mono HBA.out.size)⟩
end Go.Proofs.YtinhjnbgblieeaaDoor
