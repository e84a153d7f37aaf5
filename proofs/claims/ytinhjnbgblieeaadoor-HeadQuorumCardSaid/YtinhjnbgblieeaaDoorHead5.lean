/- The walk of package head's Check. -/
import Derived.Test.YtinhjnbgblieeaaDoorHead4
import Derived.Test.YtinhjnbgblieeaaDoorStB
namespace Go.Proofs.YtinhjnbgblieeaaDoor
open Go.RowKit
set_option linter.unusedVariables false
set_option linter.unusedSimpArgs false

theorem sealed_cells {w : World} {n : Nat} {a b c : Value} (h : w.heap[n]? = some (.cells #[a, b, c] 45 (0, 0))) :
    w.cell? ⟨n, 0, none⟩ = some a ∧ w.cell? ⟨n, 1, none⟩ = some b ∧ w.cell? ⟨n, 2, none⟩ = some c := by
  refine ⟨?_, ?_, ?_⟩ <;> simp [World.cell?, h]
theorem marks_at {w : World} {ao : Option Addr} {cap : Nat} {M : List (Int × ByteArray)} (hr : rdG 2 mkC w (.slice ao M.length cap) M) (h : 0 < M.length) :
    ∃ b off, ao = some ⟨b, off, none⟩ ∧ b < w.heap.size ∧ ∀ k, k < M.length → w.cell? ⟨b, off + k * 2, none⟩ = some (.int .i64 (mkW M k)) ∧ w.cell? ⟨b, off + k * 2 + 1, none⟩ = some (.string (mkS M k)) := by
  obtain ⟨b, off, h1, h2, hc⟩ := rdG_at mkC_len (by decide) (0, noB) hr h
  refine ⟨b, off, h1, h2, fun k hk => ⟨hc k hk 0 _ rfl, by rw [Nat.add_assoc]; exact hc k hk 1 _ rfl⟩⟩
section
variable {sl : ByteArray → ByteArray → ByteArray} {ws : List ByteArray} {n : Int} {r : ByteArray} {M : List (Int × ByteArray)} {k : Nat}
theorem checkHF_1 (h : (textF n r).2 ≠ 0) : checkHF sl ws n r M = (textF n r).2 := by unfold checkHF; rw [if_pos h]
theorem checkHF_2 (h : (textF n r).2 = 0) {e : Int} (hk : k < M.length) (ha : ∀ j, j < k → rowH sl ws (textF n r).1 M j = 0) (h0 : e ≠ 0) (he : rowH sl ws (textF n r).1 M k = e) : checkHF sl ws n r M = e := by
  have hf := firstE_at (f := rowH sl ws (textF n r).1 M) (k := k) (by rw [he]; exact h0) (k0 := 0) (c := M.length) (Nat.zero_le _) (by omega) (fun j _ hj => ha j hj)
  unfold checkHF; rw [if_neg (fun k => k h), if_pos (by rw [hf, he]; exact h0), hf, he]
theorem checkHF_3 (h : (textF n r).2 = 0) (ha : ∀ j, j < M.length → rowH sl ws (textF n r).1 M j = 0) : checkHF sl ws n r M = if M.length < 3 then 13 else 0 := by
  have hf := firstE_all (f := rowH sl ws (textF n r).1 M) (k0 := 0) (c := M.length) (fun j _ hj => ha j (by omega))
  unfold checkHF; rw [if_neg (fun k => k h), if_neg (fun k => k hf)]
variable {t : ByteArray}
theorem rowH_3 (h : mkW M k < 0 ∨ min (ws.length : Int) 4 ≤ mkW M k ∨ (0 < k ∧ mkW M k ≤ mkW M (k - 1))) : rowH sl ws t M k = 3 := by unfold rowH; rw [if_pos h]
theorem rowH_13 (h : ¬ (mkW M k < 0 ∨ min (ws.length : Int) 4 ≤ mkW M k ∨ (0 < k ∧ mkW M k ≤ mkW M (k - 1)))) (h2 : sl (ws.getD (mkW M k).toNat noB) (headW ++ t) ≠ mkS M k) : rowH sl ws t M k = 13 := by unfold rowH; rw [if_neg h, if_pos h2]
theorem rowH_0 (h : ¬ (mkW M k < 0 ∨ min (ws.length : Int) 4 ≤ mkW M k ∨ (0 < k ∧ mkW M k ≤ mkW M (k - 1)))) (h2 : sl (ws.getD (mkW M k).toNat noB) (headW ++ t) = mkS M k) : rowH sl ws t M k = 0 := by unfold rowH; rw [if_neg h, if_neg (fun k => k h2)]
end
set_option maxRecDepth 100000 in
set_option maxHeartbeats 3200000 in
theorem checkHd_any (sg ws : List ByteArray) (need n : Int) (r : ByteArray) (M : List (Int × ByteArray)) (vg vt vm : Value) (w : World) (hg : rdS w vg sg) (hwt : rdS w vt ws) (hm : rdG 2 mkC w vm M) (hk : ∀ n, n < ws.length → (ws.getD n noB).size ≤ 140737488355328) (ht : Tab w) :
    Calls Tryd.prog 21 #[.agg #[vg, vt, .int .i64 need], .agg #[.int .i64 n, .string r, vm]] w fun e w' => e = .returned (.int .i64 (checkHF sealF ws n r M)) ∧ Below w.heap.size w w' := by
  obtain ⟨F, hF⟩ : ∃ F, F = checkHF sealF ws n r M := ⟨_, rfl⟩
  rw [← hF]
  have HF := Lib.hid hF
  have HT := Lib.hid ht
  have HKS := Lib.hid hk
  have HW := Lib.hid hwt
  have HM := Lib.hid hm
  have hml := rdG_len hm
  obtain ⟨g1, g2, rfl⟩ := rd_form hg
  obtain ⟨h1, h2, rfl⟩ := rd_form hwt
  obtain ⟨m1, m2, rfl⟩ := rd_form hm
  clear hF hg hwt hm hk ht
  obtain ⟨W, hW⟩ : ∃ W, (w.alloc (.cells #[.slice g1 sg.length g2, .slice h1 ws.length h2, .int .i64 need] 34)).alloc (.cells #[.int .i64 n, .string r, .slice m1 M.length m2] 45) = W := ⟨_, rfl⟩
  have hbW : Below w.heap.size w W := by rw [← hW]; exact ((Below.refl _ _).alloc (Nat.le_refl _) _).alloc (by simp) _
  have g0 : W.heap[w.heap.size]? = some (.cells #[.slice g1 sg.length g2, .slice h1 ws.length h2, .int .i64 need] 34 (0, 0)) := by rw [← hW]; exact heap_old (heap_alloc_new _ _)
  have gs : W.heap[w.heap.size + 1]? = some (.cells #[.int .i64 n, .string r, .slice m1 M.length m2] 45 (0, 0)) := by rw [← hW]; exact heap_new (by simp)
  have HBW := Lib.hid hbW
  have HG0 := Lib.hid (fun w' (h : Below W.heap.size W w') => blk_below g0 h)
  have HG1 := Lib.hid (fun w' (h : Below W.heap.size W w') => blk_below gs h)
  have HWR := Lib.hid (fun wr (h : Below W.heap.size W wr) => HW.out.below (HBW.out.trans (h.mono HBW.out.size)))
  have HMR := Lib.hid (fun wr (h : Below W.heap.size W wr) => HM.out.below (HBW.out.trans (h.mono HBW.out.size)))
  have HB0 := Lib.hid (Below.refl W.heap.size W)
  obtain ⟨k0, k1, k2⟩ := key_cells g0
  obtain ⟨c0, c1, c2⟩ := sealed_cells gs
  have htx := textHead_any n r W
  obtain ⟨⟨T, e0⟩, hq⟩ : ∃ q, q = textF n r := ⟨_, rfl⟩
  rw [← hq] at htx
  have HQ := Lib.hid hq
  have HML := Lib.hid hml
  clear hbW g0 gs HW HM hq hml
  go_enter Tryd.func21, Tryd.ntmps21
  go_wp2_with fail
  (with_reducible refine (htx).mono ?_)
  rintro e w1 ⟨rfl, hb⟩
  have HB1 := Lib.hid (HB0.out.trans (hb.mono HB0.out.size))
  have HL1 := Lib.hid hb
  clear hb
  clear htx hW HL1
  clear k0 k1 k2 c0 c1 c2
  by_cases hz : e0 = 0
  · subst hz
    have h2t : (textF n r).2 = 0 := by rw [← HQ.out]
    have HFE := Lib.hid (fun k {e : Int} (h1 : k < M.length) (h2 : ∀ j, j < k → rowH sealF ws T M j = 0) (h3 : e ≠ 0) (h4 : rowH sealF ws T M k = e) => HF.out.trans (checkHF_2 h2t h1 (by rw [← HQ.out]; exact h2) h3 (by rw [← HQ.out]; exact h4)))
    have HFN := Lib.hid (fun (h1 : ∀ j, j < M.length → rowH sealF ws T M j = 0) => HF.out.trans (checkHF_3 h2t (by rw [← HQ.out]; exact h1)))
    have HTS := Lib.hid (show T.size ≤ 41 by have := headB_size (textF_inv h2t); have e := HQ.out; rw [textF_ok (textF_inv h2t)] at e; injection e with e _; rw [e]; exact this)
    clear h2t
    obtain ⟨k0, k1, k2⟩ := key_cells (HG0.out _ HB1.out)
    obtain ⟨c0, c1, c2⟩ := sealed_cells (HG1.out _ HB1.out)
    go_wp2_with fail
    clear k0 k1 k2 c0 c1 c2
    go_loopw [21] (fun i wr => ∃ k : Nat, k ≤ M.length ∧ i = .int .i64 (k : Int) ∧ Hid (∀ j, j < k → rowH sealF ws T M j = 0) ∧ Hid (Below W.heap.size W wr)) (fun i _ => M.length - (intOf i).toNat)
    case atStart => exact ⟨0, Nat.zero_le _, rfl, Lib.hid fun j hj => absurd hj (Nat.not_lt_zero _), HB1⟩
    case round =>
      clear HB1
      obtain ⟨k, hk, rfl, HALL, HB2⟩ := hrel
      obtain ⟨k0, k1, k2⟩ := key_cells (HG0.out _ HB2.out)
      obtain ⟨c0, c1, c2⟩ := sealed_cells (HG1.out _ HB2.out)
      by_cases hl : k < M.length
      · have hkl : decide ((k : Int) < (M.length : Int)) = true := decide_eq_true (by omega)
        have hki : (k : Int) < (M.length : Int) := by omega
        have hk0 : (0 : Int) ≤ (k : Int) := by omega
        obtain ⟨bm, om, hbm, _, hcm⟩ := marks_at (HMR.out _ HB2.out) (by omega)
        subst hbm
        obtain ⟨x, hx⟩ : ∃ x, x = mkW M k := ⟨_, rfl⟩
        obtain ⟨y, hy⟩ : ∃ y, y = mkS M k := ⟨_, rfl⟩
        have HMC := Lib.hid (fun wr (h : Below W.heap.size W wr) j (hj : j < M.length) => by
          obtain ⟨b', o', e, _, hc⟩ := marks_at (HMR.out wr h) (by omega)
          simp only [Option.some.injEq, Addr.mk.injEq, and_true] at e
          obtain ⟨rfl, rfl⟩ := e
          exact hc j hj)
        obtain ⟨d0, d1⟩ := hcm k hl
        rw [← hx] at d0
        rw [← hy] at d1
        have HX := Lib.hid hx
        have HY := Lib.hid hy
        have HKL := Lib.hid hl
        clear hcm hx hy hl
        have hw1 : wrap64 ((k : Int) + 1) = (k : Int) + 1 := IntWalk.wrap64_in _ (by have := HKL.out; have := HML.out; omega)
        have HB3 := Lib.hid (HB2.out.alloc HB2.out.size (.cells #[.int .i64 x, .string y] 47)).drew
        have hgq := heap_alloc_new wr (.cells #[.int .i64 x, .string y] 47)
        obtain ⟨q, hq⟩ : ∃ q, q = wr.heap.size := ⟨_, rfl⟩
        rw [← hq] at hgq
        have HGQ := Lib.hid (show (wr.alloc (.cells #[.int .i64 x, .string y] 47)).drew.heap[q]? = _ from hgq)
        clear hgq
        go_wp2_with fail
        rw [← hq]
        clear hq d1 d0 k0 k1 k2 c0 c1 c2
        have k1 := (key_cells (HG0.out _ HB3.out)).2.1
        have c2 := (sealed_cells (HG1.out _ HB3.out)).2.2
        have q0 := (mark_cells HGQ.out).1
        by_cases hA : x < 0
        · have a0 : decide (x < 0) = true := decide_eq_true hA
          have HBAD := Lib.hid (rowH_3 (sl := sealF) (ws := ws) (t := T) (.inl (by rw [← HX.out]; exact hA)))
          clear hA
          refine Lone.wp_region_order [(0, false), (1, false), (2, false), (3, false), (4, false), (5, false), (6, false), (7, false), (8, false), (9, false), (10, false), (11, false), (12, false), (13, false), (14, false), (15, false), (16, false), (17, false), (18, false), (19, false), (20, false), (21, false), (22, false), (23, false), (24, false), (25, false), (26, false), (27, false)] (fun w' => w'.cell? ⟨q, 0, none⟩ = some (.int .i64 x) ∧ w'.cell? ⟨w.heap.size, 1, none⟩ = some (.slice h1 ws.length h2) ∧ w'.cell? ⟨w.heap.size + 1, 2, none⟩ = some (.slice (some ⟨bm, om, none⟩) M.length m2)) (by kernel_rfl) (by kernel_rfl) rfl (by kernel_rfl) (by intro _ _ d _ _ h; cases d <;> exact h) (⟨q0, k1, c2⟩) ?_; simp only [List.map_cons, List.map_nil, List.getElem?_toArray, List.getElem?_cons_zero, List.getElem?_cons_succ, Option.getD_some]
          repeat (first | (refine Lone.ro_q (by rfl) (v := ?_) ?_ ?_; rotate_left; (focus (intro w' hSw; (try dsimp only at hSw); go_simp; try with_reducible rfl)); simp only [Act.put, List.setIfInBounds_toArray, List.set_cons_zero, List.set_cons_succ]) | (refine Lone.ro_skip (by rfl) ?_; simp only [Act.put, List.setIfInBounds_toArray, List.set_cons_zero, List.set_cons_succ]))
          (refine Lone.ro_nil ?_; go_wp2_with fail)
          have hF := HFE.out k HKL.out HALL.out (by decide) HBAD.out
          subst hF
          go_ret
          exact ⟨rfl, HBW.out.trans (HB3.out.mono HBW.out.size)⟩
        · have a0 : decide (x < 0) = false := decide_eq_false hA
          have hxw : min (ws.length : Int) 4 ≤ (ws.length : Int) := by omega
          by_cases hB : min (ws.length : Int) 4 ≤ x
          · have b0 : decide (min (ws.length : Int) 4 ≤ x) = true := decide_eq_true hB
            have HBAD := Lib.hid (rowH_3 (sl := sealF) (ws := ws) (t := T) (.inr (.inl (by rw [← HX.out]; exact hB))))
            clear hB hA hxw
            refine Lone.wp_region_order [(0, false), (1, false), (2, false), (3, false), (4, false), (5, false), (6, false), (7, false), (8, false), (9, false), (10, false), (11, false), (12, false), (13, false), (14, false), (15, false), (16, false), (17, false), (18, false), (19, false), (20, false), (21, false), (22, false), (23, false), (24, false), (25, false), (26, false), (27, false)] (fun w' => w'.cell? ⟨q, 0, none⟩ = some (.int .i64 x) ∧ w'.cell? ⟨w.heap.size, 1, none⟩ = some (.slice h1 ws.length h2) ∧ w'.cell? ⟨w.heap.size + 1, 2, none⟩ = some (.slice (some ⟨bm, om, none⟩) M.length m2)) (by kernel_rfl) (by kernel_rfl) rfl (by kernel_rfl) (by intro _ _ d _ _ h; cases d <;> exact h) (⟨q0, k1, c2⟩) ?_; simp only [List.map_cons, List.map_nil, List.getElem?_toArray, List.getElem?_cons_zero, List.getElem?_cons_succ, Option.getD_some]
            repeat (first | (refine Lone.ro_q (by rfl) (v := ?_) ?_ ?_; rotate_left; (focus (intro w' hSw; (try dsimp only at hSw); go_simp; try with_reducible rfl)); simp only [Act.put, List.setIfInBounds_toArray, List.set_cons_zero, List.set_cons_succ]) | (refine Lone.ro_skip (by rfl) ?_; simp only [Act.put, List.setIfInBounds_toArray, List.set_cons_zero, List.set_cons_succ]))
            (refine Lone.ro_nil ?_; go_wp2_with fail)
            have hF := HFE.out k HKL.out HALL.out (by decide) HBAD.out
            subst hF
            go_ret
            exact ⟨rfl, HBW.out.trans (HB3.out.mono HBW.out.size)⟩
          · have b0 : decide (min (ws.length : Int) 4 ≤ x) = false := decide_eq_false hB
            by_cases hC : 0 < k
            · have e0 : decide ((0 : Int) < (k : Int)) = true := decide_eq_true (by omega)
              have e1 : decide (0 < k) = true := decide_eq_true hC
              have hs1 : IntKind.i64.wrap ((k : Int) - 1) = ((k - 1 : Nat) : Int) := by have := HKL.out; have := HML.out; rw [IntWalk.i64_in _ (by omega)]; omega
              have hki1 : ((k - 1 : Nat) : Int) < (M.length : Int) := by have := HKL.out; omega
              have hkz : (0 : Int) ≤ ((k - 1 : Nat) : Int) := by omega
              obtain ⟨z, hz⟩ : ∃ z, z = mkW M (k - 1) := ⟨_, rfl⟩
              have p0 := (HMC.out _ HB3.out (k - 1) (by have := HKL.out; omega)).1
              rw [← hz] at p0
              have HZ := Lib.hid hz
              clear hz
              by_cases hD : x ≤ z
              · have f0 : decide (x ≤ z) = true := decide_eq_true hD
                have HBAD := Lib.hid (rowH_3 (sl := sealF) (ws := ws) (t := T) (.inr (.inr ⟨hC, by rw [← HX.out, ← HZ.out]; exact hD⟩)))
                clear hB hA hD hC hxw
                refine Lone.wp_region_order [(0, false), (1, false), (2, false), (3, false), (4, false), (5, false), (6, false), (7, false), (8, false), (9, false), (10, false), (11, false), (12, false), (13, false), (14, false), (15, false), (16, false), (17, false), (18, false), (19, false), (20, false), (21, false), (22, false), (23, false), (24, false), (25, false), (26, false), (27, false)] (fun w' => w'.cell? ⟨q, 0, none⟩ = some (.int .i64 x) ∧ w'.cell? ⟨w.heap.size, 1, none⟩ = some (.slice h1 ws.length h2) ∧ w'.cell? ⟨w.heap.size + 1, 2, none⟩ = some (.slice (some ⟨bm, om, none⟩) M.length m2) ∧ w'.cell? ⟨bm, om + (k - 1) * 2, none⟩ = some (.int .i64 z)) (by kernel_rfl) (by kernel_rfl) rfl (by kernel_rfl) (by intro _ _ d _ _ h; cases d <;> exact h) (⟨q0, k1, c2, p0⟩) ?_; simp only [List.map_cons, List.map_nil, List.getElem?_toArray, List.getElem?_cons_zero, List.getElem?_cons_succ, Option.getD_some]
                repeat (first | (refine Lone.ro_q (by rfl) (v := ?_) ?_ ?_; rotate_left; (focus (intro w' hSw; (try dsimp only at hSw); go_simp; try with_reducible rfl)); simp only [Act.put, List.setIfInBounds_toArray, List.set_cons_zero, List.set_cons_succ]) | (refine Lone.ro_skip (by rfl) ?_; simp only [Act.put, List.setIfInBounds_toArray, List.set_cons_zero, List.set_cons_succ]))
                (refine Lone.ro_nil ?_; go_wp2_with fail)
                have hF := HFE.out k HKL.out HALL.out (by decide) HBAD.out
                subst hF
                go_ret
                exact ⟨rfl, HBW.out.trans (HB3.out.mono HBW.out.size)⟩
              · have f0 : decide (x ≤ z) = false := decide_eq_false hD
                have HOKW := Lib.hid (show ¬ (mkW M k < 0 ∨ min (ws.length : Int) 4 ≤ mkW M k ∨ (0 < k ∧ mkW M k ≤ mkW M (k - 1))) by rw [← HX.out, ← HZ.out]; omega)
                refine Lone.wp_region_order [(0, false), (1, false), (2, false), (3, false), (4, false), (5, false), (6, false), (7, false), (8, false), (9, false), (10, false), (11, false), (12, false), (13, false), (14, false), (15, false), (16, false), (17, false), (18, false), (19, false), (20, false), (21, false), (22, false), (23, false), (24, false), (25, false), (26, false), (27, false)] (fun w' => w'.cell? ⟨q, 0, none⟩ = some (.int .i64 x) ∧ w'.cell? ⟨w.heap.size, 1, none⟩ = some (.slice h1 ws.length h2) ∧ w'.cell? ⟨w.heap.size + 1, 2, none⟩ = some (.slice (some ⟨bm, om, none⟩) M.length m2) ∧ w'.cell? ⟨bm, om + (k - 1) * 2, none⟩ = some (.int .i64 z)) (by kernel_rfl) (by kernel_rfl) rfl (by kernel_rfl) (by intro _ _ d _ _ h; cases d <;> exact h) (⟨q0, k1, c2, p0⟩) ?_; simp only [List.map_cons, List.map_nil, List.getElem?_toArray, List.getElem?_cons_zero, List.getElem?_cons_succ, Option.getD_some]
                repeat (first | (refine Lone.ro_q (by rfl) (v := ?_) ?_ ?_; rotate_left; (focus (intro w' hSw; (try dsimp only at hSw); go_simp; try with_reducible rfl)); simp only [Act.put, List.setIfInBounds_toArray, List.set_cons_zero, List.set_cons_succ]) | (refine Lone.ro_skip (by rfl) ?_; simp only [Act.put, List.setIfInBounds_toArray, List.set_cons_zero, List.set_cons_succ]))
                (refine Lone.ro_nil ?_; go_wp2_with fail)
                clear p0 hs1 hki1 hkz a0 b0 e0 e1 f0
                clear k1 c2 q0
                obtain ⟨xn, rfl⟩ : ∃ n : Nat, x = (n : Int) := ⟨x.toNat, by omega⟩
                have HXW := Lib.hid (show xn < ws.length by omega)
                have HB4 := Lib.hid HB3.out.drew
                skip
                obtain ⟨bw, ow, hbw, _, hcw⟩ := rdS_at' (HWR.out _ HB4.out) (by have := HXW.out; omega)
                subst hbw
                obtain ⟨u, hu⟩ : ∃ u, u = ws.getD xn noB := ⟨_, rfl⟩
                have u0 := hcw xn HXW.out
                rw [← hu] at u0
                have HWC := Lib.hid (fun wr (h : Below W.heap.size W wr) => ((rdS_cl (HWR.out wr h) HXW.out).trans (by rw [← hu]) : wr.cell? ⟨bw, ow + xn, none⟩ = some (.string u)))
                have HUS := Lib.hid (show u.size ≤ 140737488355328 by rw [hu]; exact HKS.out xn HXW.out)
                have HR0 := Lib.hid (show sealF u (headW ++ T) = y → rowH sealF ws T M k = 0 from fun e => rowH_0 HOKW.out (by rw [← HX.out, ← HY.out, Int.toNat_natCast, ← hu]; exact e))
                have HR1 := Lib.hid (show sealF u (headW ++ T) ≠ y → rowH sealF ws T M k = 13 from fun e => rowH_13 HOKW.out (by rw [← HX.out, ← HY.out, Int.toNat_natCast, ← hu]; exact e))
                have xi : (xn : Int) < (ws.length : Int) := by have := HXW.out; omega
                have xz : (0 : Int) ≤ (xn : Int) := by omega
                have hts : T.size ≤ 41 := HTS.out
                have k1 := (key_cells (HG0.out _ HB4.out)).2.1
                obtain ⟨q0, q1, _, _⟩ := mark_cells (blk_below HGQ.out (Below.refl _ _).drew)
                have hse := seal_any u (headW ++ T) _ (by rw [ByteArray.size_append]; have := HTS.out; have e : headW.size = 4 := rfl; omega) HUS.out (HT.out.below (HBW.out.trans (HB4.out.mono HBW.out.size)))
                obtain ⟨Z, hZ⟩ : ∃ Z, Z = sealF u (headW ++ T) := ⟨_, rfl⟩
                rw [← hZ] at hse HR0 HR1
                unfold headW at hse
                clear hcw hu hZ
                go_wp2_with fail
                refine Lone.wp_region_order [(0, false), (1, false), (2, false), (3, false), (4, false), (5, false), (6, false), (7, false), (9, false), (10, false), (8, true), (11, false)] (fun w' => w'.cell? ⟨q, 0, none⟩ = some (.int .i64 (xn : Int)) ∧ w'.cell? ⟨q, 1, none⟩ = some (.string y) ∧ w'.cell? ⟨w.heap.size, 1, none⟩ = some (.slice (some ⟨bw, ow, none⟩) ws.length h2) ∧ w'.cell? ⟨bw, ow + xn, none⟩ = some (.string u)) (by kernel_rfl) (by kernel_rfl) rfl (by kernel_rfl) (by intro _ _ d _ _ h; cases d <;> exact h) (⟨q0, q1, k1, u0⟩) ?_; simp only [List.map_cons, List.map_nil, List.getElem?_toArray, List.getElem?_cons_zero, List.getElem?_cons_succ, Option.getD_some]
                repeat (first | (refine Lone.ro_q (by rfl) (v := ?_) ?_ ?_; rotate_left; (focus (intro w' hSw; (try dsimp only at hSw); go_simp; try with_reducible rfl)); simp only [Act.put, List.setIfInBounds_toArray, List.set_cons_zero, List.set_cons_succ]) | (refine Lone.ro_skip (by rfl) ?_; simp only [Act.put, List.setIfInBounds_toArray, List.set_cons_zero, List.set_cons_succ]))
                refine Lone.ro_q (by rfl) (v := .string (⟨#[104, 101, 97, 100]⟩ ++ T)) (fun w' hSw => by go_simp <;> omega) ?_; simp only [Act.put, List.setIfInBounds_toArray, List.set_cons_zero, List.set_cons_succ]
                repeat (first | (refine Lone.ro_q (by rfl) (v := ?_) ?_ ?_; rotate_left; (focus (intro w' hSw; (try dsimp only at hSw); go_simp; try with_reducible rfl)); simp only [Act.put, List.setIfInBounds_toArray, List.set_cons_zero, List.set_cons_succ]) | (refine Lone.ro_skip (by rfl) ?_; simp only [Act.put, List.setIfInBounds_toArray, List.set_cons_zero, List.set_cons_succ]))
                (refine Lone.ro_loud (by rfl) (fun K hK => ?_); go_simp)
                (with_reducible refine hse.mono ?_)
                rintro e w5 ⟨rfl, hb⟩
                have HB5 := Lib.hid (HB4.out.trans (hb.mono HB4.out.size))
                have k5 := (key_cells (HG0.out _ HB5.out)).2.1
                obtain ⟨q5, q6, _, _⟩ := mark_cells (blk_below (blk_below HGQ.out (Below.refl _ _).drew) hb)
                have u5 := HWC.out _ HB5.out
                clear hb hse
                (refine hK.out _ _ (fun w' => w'.cell? ⟨q, 0, none⟩ = some (.int .i64 (xn : Int)) ∧ w'.cell? ⟨q, 1, none⟩ = some (.string y) ∧ w'.cell? ⟨w.heap.size, 1, none⟩ = some (.slice (some ⟨bw, ow, none⟩) ws.length h2) ∧ w'.cell? ⟨bw, ow + xn, none⟩ = some (.string u)) (.inl fun _ h => h) (⟨q5, q6, k5, u5⟩) ?_; clear hK K; try simp only [Act.put, List.setIfInBounds_toArray, List.set_cons_zero, List.set_cons_succ])
                clear k5 q5 q6 u5 q0 q1 k1 u0
                by_cases hs : Z = y
                · have HOK := Lib.hid (HR0.out hs)
                  have sb : (Z.toList == y.toList) = true := by rw [hs]; exact beq_self_eq_true _
                  clear hs
                  repeat (first | (refine Lone.ro_q (by rfl) (v := ?_) ?_ ?_; rotate_left; (focus (intro w' hSw; (try dsimp only at hSw); go_simp; try with_reducible rfl)); simp only [Act.put, List.setIfInBounds_toArray, List.set_cons_zero, List.set_cons_succ]) | (refine Lone.ro_skip (by rfl) ?_; simp only [Act.put, List.setIfInBounds_toArray, List.set_cons_zero, List.set_cons_succ]))
                  (refine Lone.ro_nil ?_; go_wp2_with fail)
                  go_roundw
                  case rel => exact ⟨k + 1, by have := HKL.out; omega, by first | rfl | (rw [hw1]; rfl), Lib.hid fun j hj => by (by_cases hjk : j = k; rw [hjk]; exact HOK.out; exact HALL.out j (by omega)), HB5⟩
                  case measure => exact meas_step (n := M.length) _ (by first | rfl | exact hw1) HKL.out
                · have HBAD := Lib.hid (HR1.out hs)
                  have sb : (Z.toList == y.toList) = false := beq_eq_false_iff_ne.2 (fun e => hs (toList_inj e))
                  clear hs
                  repeat (first | (refine Lone.ro_q (by rfl) (v := ?_) ?_ ?_; rotate_left; (focus (intro w' hSw; (try dsimp only at hSw); go_simp; try with_reducible rfl)); simp only [Act.put, List.setIfInBounds_toArray, List.set_cons_zero, List.set_cons_succ]) | (refine Lone.ro_skip (by rfl) ?_; simp only [Act.put, List.setIfInBounds_toArray, List.set_cons_zero, List.set_cons_succ]))
                  (refine Lone.ro_nil ?_; go_wp2_with fail)
                  have hF := HFE.out k HKL.out HALL.out (by decide) HBAD.out
                  subst hF
                  go_ret
                  exact ⟨rfl, HBW.out.trans (HB5.out.mono HBW.out.size)⟩
            · have e0 : decide ((0 : Int) < (k : Int)) = false := decide_eq_false (by omega)
              have e1 : decide (0 < k) = false := decide_eq_false hC
              have HOKW := Lib.hid (show ¬ (mkW M k < 0 ∨ min (ws.length : Int) 4 ≤ mkW M k ∨ (0 < k ∧ mkW M k ≤ mkW M (k - 1))) by rw [← HX.out]; omega)
              refine Lone.wp_region_order [(0, false), (1, false), (2, false), (3, false), (4, false), (5, false), (6, false), (7, false), (8, false), (9, false), (10, false), (11, false), (12, false), (13, false), (14, false), (15, false), (16, false), (17, false), (18, false), (19, false), (20, false), (21, false), (22, false), (23, false), (24, false), (25, false), (26, false), (27, false)] (fun w' => w'.cell? ⟨q, 0, none⟩ = some (.int .i64 x) ∧ w'.cell? ⟨w.heap.size, 1, none⟩ = some (.slice h1 ws.length h2) ∧ w'.cell? ⟨w.heap.size + 1, 2, none⟩ = some (.slice (some ⟨bm, om, none⟩) M.length m2)) (by kernel_rfl) (by kernel_rfl) rfl (by kernel_rfl) (by intro _ _ d _ _ h; cases d <;> exact h) (⟨q0, k1, c2⟩) ?_; simp only [List.map_cons, List.map_nil, List.getElem?_toArray, List.getElem?_cons_zero, List.getElem?_cons_succ, Option.getD_some]
              repeat (first | (refine Lone.ro_q (by rfl) (v := ?_) ?_ ?_; rotate_left; (focus (intro w' hSw; (try dsimp only at hSw); go_simp; try with_reducible rfl)); simp only [Act.put, List.setIfInBounds_toArray, List.set_cons_zero, List.set_cons_succ]) | (refine Lone.ro_skip (by rfl) ?_; simp only [Act.put, List.setIfInBounds_toArray, List.set_cons_zero, List.set_cons_succ]))
              (refine Lone.ro_nil ?_; go_wp2_with fail)
              clear a0 b0 e0 e1
              clear k1 c2 q0
              obtain ⟨xn, rfl⟩ : ∃ n : Nat, x = (n : Int) := ⟨x.toNat, by omega⟩
              have HXW := Lib.hid (show xn < ws.length by omega)
              have HB4 := Lib.hid HB3.out.drew
              skip
              obtain ⟨bw, ow, hbw, _, hcw⟩ := rdS_at' (HWR.out _ HB4.out) (by have := HXW.out; omega)
              subst hbw
              obtain ⟨u, hu⟩ : ∃ u, u = ws.getD xn noB := ⟨_, rfl⟩
              have u0 := hcw xn HXW.out
              rw [← hu] at u0
              have HWC := Lib.hid (fun wr (h : Below W.heap.size W wr) => ((rdS_cl (HWR.out wr h) HXW.out).trans (by rw [← hu]) : wr.cell? ⟨bw, ow + xn, none⟩ = some (.string u)))
              have HUS := Lib.hid (show u.size ≤ 140737488355328 by rw [hu]; exact HKS.out xn HXW.out)
              have HR0 := Lib.hid (show sealF u (headW ++ T) = y → rowH sealF ws T M k = 0 from fun e => rowH_0 HOKW.out (by rw [← HX.out, ← HY.out, Int.toNat_natCast, ← hu]; exact e))
              have HR1 := Lib.hid (show sealF u (headW ++ T) ≠ y → rowH sealF ws T M k = 13 from fun e => rowH_13 HOKW.out (by rw [← HX.out, ← HY.out, Int.toNat_natCast, ← hu]; exact e))
              have xi : (xn : Int) < (ws.length : Int) := by have := HXW.out; omega
              have xz : (0 : Int) ≤ (xn : Int) := by omega
              have hts : T.size ≤ 41 := HTS.out
              have k1 := (key_cells (HG0.out _ HB4.out)).2.1
              obtain ⟨q0, q1, _, _⟩ := mark_cells (blk_below HGQ.out (Below.refl _ _).drew)
              have hse := seal_any u (headW ++ T) _ (by rw [ByteArray.size_append]; have := HTS.out; have e : headW.size = 4 := rfl; omega) HUS.out (HT.out.below (HBW.out.trans (HB4.out.mono HBW.out.size)))
              obtain ⟨Z, hZ⟩ : ∃ Z, Z = sealF u (headW ++ T) := ⟨_, rfl⟩
              rw [← hZ] at hse HR0 HR1
              unfold headW at hse
              clear hcw hu hZ
              go_wp2_with fail
              refine Lone.wp_region_order [(0, false), (1, false), (2, false), (3, false), (4, false), (5, false), (6, false), (7, false), (9, false), (10, false), (8, true), (11, false)] (fun w' => w'.cell? ⟨q, 0, none⟩ = some (.int .i64 (xn : Int)) ∧ w'.cell? ⟨q, 1, none⟩ = some (.string y) ∧ w'.cell? ⟨w.heap.size, 1, none⟩ = some (.slice (some ⟨bw, ow, none⟩) ws.length h2) ∧ w'.cell? ⟨bw, ow + xn, none⟩ = some (.string u)) (by kernel_rfl) (by kernel_rfl) rfl (by kernel_rfl) (by intro _ _ d _ _ h; cases d <;> exact h) (⟨q0, q1, k1, u0⟩) ?_; simp only [List.map_cons, List.map_nil, List.getElem?_toArray, List.getElem?_cons_zero, List.getElem?_cons_succ, Option.getD_some]
              repeat (first | (refine Lone.ro_q (by rfl) (v := ?_) ?_ ?_; rotate_left; (focus (intro w' hSw; (try dsimp only at hSw); go_simp; try with_reducible rfl)); simp only [Act.put, List.setIfInBounds_toArray, List.set_cons_zero, List.set_cons_succ]) | (refine Lone.ro_skip (by rfl) ?_; simp only [Act.put, List.setIfInBounds_toArray, List.set_cons_zero, List.set_cons_succ]))
              refine Lone.ro_q (by rfl) (v := .string (⟨#[104, 101, 97, 100]⟩ ++ T)) (fun w' hSw => by go_simp <;> omega) ?_; simp only [Act.put, List.setIfInBounds_toArray, List.set_cons_zero, List.set_cons_succ]
              repeat (first | (refine Lone.ro_q (by rfl) (v := ?_) ?_ ?_; rotate_left; (focus (intro w' hSw; (try dsimp only at hSw); go_simp; try with_reducible rfl)); simp only [Act.put, List.setIfInBounds_toArray, List.set_cons_zero, List.set_cons_succ]) | (refine Lone.ro_skip (by rfl) ?_; simp only [Act.put, List.setIfInBounds_toArray, List.set_cons_zero, List.set_cons_succ]))
              (refine Lone.ro_loud (by rfl) (fun K hK => ?_); go_simp)
              (with_reducible refine hse.mono ?_)
              rintro e w5 ⟨rfl, hb⟩
              have HB5 := Lib.hid (HB4.out.trans (hb.mono HB4.out.size))
              have k5 := (key_cells (HG0.out _ HB5.out)).2.1
              obtain ⟨q5, q6, _, _⟩ := mark_cells (blk_below (blk_below HGQ.out (Below.refl _ _).drew) hb)
              have u5 := HWC.out _ HB5.out
              clear hb hse
              (refine hK.out _ _ (fun w' => w'.cell? ⟨q, 0, none⟩ = some (.int .i64 (xn : Int)) ∧ w'.cell? ⟨q, 1, none⟩ = some (.string y) ∧ w'.cell? ⟨w.heap.size, 1, none⟩ = some (.slice (some ⟨bw, ow, none⟩) ws.length h2) ∧ w'.cell? ⟨bw, ow + xn, none⟩ = some (.string u)) (.inl fun _ h => h) (⟨q5, q6, k5, u5⟩) ?_; clear hK K; try simp only [Act.put, List.setIfInBounds_toArray, List.set_cons_zero, List.set_cons_succ])
              clear k5 q5 q6 u5 q0 q1 k1 u0
              by_cases hs : Z = y
              · have HOK := Lib.hid (HR0.out hs)
                have sb : (Z.toList == y.toList) = true := by rw [hs]; exact beq_self_eq_true _
                clear hs
                repeat (first | (refine Lone.ro_q (by rfl) (v := ?_) ?_ ?_; rotate_left; (focus (intro w' hSw; (try dsimp only at hSw); go_simp; try with_reducible rfl)); simp only [Act.put, List.setIfInBounds_toArray, List.set_cons_zero, List.set_cons_succ]) | (refine Lone.ro_skip (by rfl) ?_; simp only [Act.put, List.setIfInBounds_toArray, List.set_cons_zero, List.set_cons_succ]))
                (refine Lone.ro_nil ?_; go_wp2_with fail)
                go_roundw
                case rel => exact ⟨k + 1, by have := HKL.out; omega, by first | rfl | (rw [hw1]; rfl), Lib.hid fun j hj => by (by_cases hjk : j = k; rw [hjk]; exact HOK.out; exact HALL.out j (by omega)), HB5⟩
                case measure => exact meas_step (n := M.length) _ (by first | rfl | exact hw1) HKL.out
              · have HBAD := Lib.hid (HR1.out hs)
                have sb : (Z.toList == y.toList) = false := beq_eq_false_iff_ne.2 (fun e => hs (toList_inj e))
                clear hs
                repeat (first | (refine Lone.ro_q (by rfl) (v := ?_) ?_ ?_; rotate_left; (focus (intro w' hSw; (try dsimp only at hSw); go_simp; try with_reducible rfl)); simp only [Act.put, List.setIfInBounds_toArray, List.set_cons_zero, List.set_cons_succ]) | (refine Lone.ro_skip (by rfl) ?_; simp only [Act.put, List.setIfInBounds_toArray, List.set_cons_zero, List.set_cons_succ]))
                (refine Lone.ro_nil ?_; go_wp2_with fail)
                have hF := HFE.out k HKL.out HALL.out (by decide) HBAD.out
                subst hF
                go_ret
                exact ⟨rfl, HBW.out.trans (HB5.out.mono HBW.out.size)⟩
      · have hkn : k = M.length := by omega
        have hkl : decide ((k : Int) < (M.length : Int)) = false := decide_eq_false (by omega)
        have hF := HFN.out (fun j hj => HALL.out j (by omega))
        by_cases hnd : M.length < 3
        · have nb : decide ((M.length : Int) < 3) = true := decide_eq_true (by omega)
          have nb2 : decide (M.length < 3) = true := decide_eq_true hnd
          rw [if_pos hnd] at hF
          subst hF
          clear hnd
          go_wp2_with fail
          go_ret
          exact ⟨rfl, HBW.out.trans (HB2.out.mono HBW.out.size)⟩
        · have nb : decide ((M.length : Int) < 3) = false := decide_eq_false (by omega)
          have nb2 : decide (M.length < 3) = false := decide_eq_false hnd
          rw [if_neg hnd] at hF
          subst hF
          clear hnd
          go_wp2_with fail
          go_ret
          exact ⟨rfl, HBW.out.trans (HB2.out.mono HBW.out.size)⟩
  · have n1 : (e0 == 0) = false := beq_eq_false_iff_ne.2 hz
    have n2 : (e0 != 0) = true := by rw [bne, n1]; rfl
    have hF := HF.out.trans (checkHF_1 (by rw [← HQ.out]; exact hz))
    rw [← HQ.out] at hF
    subst hF
    clear hz
    go_wp2_with fail
    go_ret
    exact ⟨rfl, HBW.out.trans (HB1.out.mono HBW.out.size)⟩
end Go.Proofs.YtinhjnbgblieeaaDoor
