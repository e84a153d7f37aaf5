/- The walk of the keep's sameStep; steps in cells of their own. -/
import Derived.Test.YtinhjnbgblieeaaDoorStep3
import Derived.Test.YtinhjnbgblieeaaDoorStep4
namespace Go.Proofs.YtinhjnbgblieeaaDoor
open Go.RowKit
set_option linter.unusedVariables false
set_option linter.unusedSimpArgs false

theorem stp_ext {a b : Stp} (h0 : a.ref = b.ref) (h1 : a.old = b.old) (h2 : a.new = b.new) (h3 : a.who = b.who) (h4 : a.seals = b.seals) : a = b := by
  cases a; cases b
  simp only at h0 h1 h2 h3 h4
  subst h0 h1 h2 h3 h4
  rfl
theorem eq_of_getI {ss tt : List Int} (hl : ss.length = tt.length) (h : ∀ j, j < ss.length → ss.getD j 0 = tt.getD j 0) : ss = tt := by
  apply List.ext_getElem hl
  intro i h1 h2
  have := h i h1
  rwa [List.getD, List.getD, List.getElem?_eq_getElem h1, List.getElem?_eq_getElem h2] at this
set_option maxRecDepth 100000 in
set_option maxHeartbeats 3200000 in
theorem sameStep_any (a b : Stp) (va ua vb ub : Value) (w : World) (h1 : rdI w va a.who) (h2 : rdS w ua a.seals) (h3 : rdI w vb b.who) (h4 : rdS w ub b.seals) (r : Bool) (hr : r = true ↔ a = b) :
    Calls Tryd.prog 13 #[.agg #[.string a.ref, .string a.old, .string a.new, va, ua], .agg #[.string b.ref, .string b.old, .string b.new, vb, ub]] w fun e w' => e = .returned (.bool r) ∧ Below w.heap.size w w' := by
  have HR := Lib.hid hr
  have HWN := Lib.hid (rdI_len h1)
  obtain ⟨aa, ca, rfl⟩ := rd_form h1
  obtain ⟨xa, ya, rfl⟩ := rd_form h2
  obtain ⟨ab, cb, rfl⟩ := rd_form h3
  obtain ⟨xb, yb, rfl⟩ := rd_form h4
  obtain ⟨W, hW⟩ : ∃ W, (w.alloc (.cells #[.string a.ref, .string a.old, .string a.new, .slice aa a.who.length ca, .slice xa a.seals.length ya] 25)).alloc (.cells #[.string b.ref, .string b.old, .string b.new, .slice ab b.who.length cb, .slice xb b.seals.length yb] 25) = W := ⟨_, rfl⟩
  have hbW : Below w.heap.size w W := by rw [← hW]; exact ((Below.refl _ _).alloc (Nat.le_refl _) _).alloc (by simp) _
  have g0 : W.heap[w.heap.size]? = some (.cells #[.string a.ref, .string a.old, .string a.new, .slice aa a.who.length ca, .slice xa a.seals.length ya] 25 (0, 0)) := by rw [← hW]; exact (Below.heap_alloc _ _ _ (by simp)).trans (heap_alloc_new _ _)
  have g1 : W.heap[w.heap.size + 1]? = some (.cells #[.string b.ref, .string b.old, .string b.new, .slice ab b.who.length cb, .slice xb b.seals.length yb] 25 (0, 0)) := by rw [← hW]; have := heap_alloc_new (w.alloc (.cells #[.string a.ref, .string a.old, .string a.new, .slice aa a.who.length ca, .slice xa a.seals.length ya] 25)) (.cells #[.string b.ref, .string b.old, .string b.new, .slice ab b.who.length cb, .slice xb b.seals.length yb] 25); simpa using this
  have HBW := Lib.hid hbW
  have HG0 := Lib.hid (fun w' (h : Below W.heap.size W w') => blk_below g0 h)
  have HG1 := Lib.hid (fun w' (h : Below W.heap.size W w') => blk_below g1 h)
  have HWA := Lib.hid (fun wr (h : Below W.heap.size W wr) => h1.below (HBW.out.trans (h.mono HBW.out.size)))
  have HWB := Lib.hid (fun wr (h : Below W.heap.size W wr) => h3.below (HBW.out.trans (h.mono HBW.out.size)))
  have HSA := Lib.hid (fun wr (h : Below W.heap.size W wr) => h2.below (HBW.out.trans (h.mono HBW.out.size)))
  have HSB := Lib.hid (fun wr (h : Below W.heap.size W wr) => h4.below (HBW.out.trans (h.mono HBW.out.size)))
  obtain ⟨c0, c1, c2, c3, c4, _, _⟩ := stp_cells g0
  obtain ⟨d0, d1, d2, d3, d4, _, _⟩ := stp_cells g1
  clear hbW g0 g1 h1 h2 h3 h4 hr
  go_enter Tryd.func13, Tryd.ntmps13
  by_cases hlen : a.who.length = b.who.length
  · have n1 : ((a.who.length : Int) == (b.who.length : Int)) = true := beq_iff_eq.2 (by omega)
    have n2 : ((a.who.length : Int) != (b.who.length : Int)) = false := by rw [bne, n1]; rfl
    have HLEN := Lib.hid hlen
    clear hlen
    go_wp2_with fail
    have HB0 := Lib.hid (Below.refl W.heap.size W)
    clear c0 c1 c2 c3 c4 d0 d1 d2 d3 d4
    go_loopw [4, 5] (fun v i wr => ∃ k : Nat, k ≤ a.who.length ∧ v = .bool false ∧ i = .int .i64 (k : Int) ∧ Hid (∀ j, j < k → a.who.getD j 0 = b.who.getD j 0) ∧ Hid (Below W.heap.size W wr)) (fun _ i _ => a.who.length - (intOf i).toNat)
    case atStart => exact ⟨0, Nat.zero_le _, rfl, rfl, Lib.hid fun j hj => absurd hj (Nat.not_lt_zero _), HB0⟩
    case round =>
      clear HB0
      obtain ⟨k, hk, rfl, rfl, HALL, HB9⟩ := hrel
      obtain ⟨c0, c1, c2, c3, c4, _, _⟩ := stp_cells (HG0.out _ HB9.out)
      obtain ⟨d0, d1, d2, d3, d4, _, _⟩ := stp_cells (HG1.out _ HB9.out)
      by_cases hl : k < a.who.length
      · have hkl : decide ((k : Int) < (a.who.length : Int)) = true := decide_eq_true (by omega)
        have hki : (k : Int) < (a.who.length : Int) := by omega
        have hki2 : (k : Int) < (b.who.length : Int) := by have := HLEN.out; omega
        have hk0 : (0 : Int) ≤ (k : Int) := by omega
        obtain ⟨b1, o1, h1, _, hc1⟩ := rdI_at (HWA.out _ HB9.out.drew) (by omega)
        subst h1
        obtain ⟨b2, o2, h2, _, hc2⟩ := rdI_at (HWB.out _ HB9.out.drew) (by have := HLEN.out; omega)
        subst h2
        have e1 := hc1 k hl
        have e2 := hc2 k (by have := HLEN.out; omega)
        obtain ⟨x, hx⟩ : ∃ x, x = a.who.getD k 0 := ⟨_, rfl⟩
        obtain ⟨y, hy⟩ : ∃ y, y = b.who.getD k 0 := ⟨_, rfl⟩
        rw [← hx] at e1
        rw [← hy] at e2
        have HX := Lib.hid hx
        have HY := Lib.hid hy
        have HKL := Lib.hid hl
        clear hc1 hc2 hx hy
        by_cases hxy : x = y
        · have q1 : (x == y) = true := beq_iff_eq.2 hxy
          have q2 : (x != y) = false := by rw [bne, q1]; rfl
          have HXY := Lib.hid (hxy)
          clear hxy
          have hw1 : wrap64 ((k : Int) + 1) = (k : Int) + 1 := IntWalk.wrap64_in _ (by have := HWN.out; have := HKL.out; omega)
          go_wp2_with fail
          refine Lone.wp_region_order [(0, false), (1, false), (2, false), (3, false), (4, false), (5, false), (6, false), (7, false), (8, false), (9, false), (10, false)] (fun w' => w'.cell? ⟨w.heap.size, 3, none⟩ = some (.slice (some ⟨b1, o1, none⟩) a.who.length ca) ∧ w'.cell? ⟨w.heap.size + 1, 3, none⟩ = some (.slice (some ⟨b2, o2, none⟩) b.who.length cb) ∧ w'.cell? ⟨b1, o1 + k, none⟩ = some (.int .i64 x) ∧ w'.cell? ⟨b2, o2 + k, none⟩ = some (.int .i64 y)) (by kernel_rfl) (by kernel_rfl) rfl (by kernel_rfl) (by intro _ _ d _ _ h; cases d <;> exact h) (⟨c3, d3, e1, e2⟩) ?_; simp only [List.map_cons, List.map_nil, List.getElem?_toArray, List.getElem?_cons_zero, List.getElem?_cons_succ, Option.getD_some]
          repeat (first | (refine Lone.ro_q (by rfl) (v := ?_) ?_ ?_; rotate_left; (focus (intro w' hSw; (try dsimp only at hSw); go_simp; try with_reducible rfl)); simp only [Act.put, List.setIfInBounds_toArray, List.set_cons_zero, List.set_cons_succ]) | (refine Lone.ro_skip (by rfl) ?_; simp only [Act.put, List.setIfInBounds_toArray, List.set_cons_zero, List.set_cons_succ]))
          (refine Lone.ro_nil ?_; go_wp2_with fail)
          go_wp2_with fail
          go_roundw
          case rel => exact ⟨k + 1, by have := HKL.out; omega, rfl, by first | rfl | (rw [hw1]; rfl), Lib.hid fun j hj => by (by_cases hjk : j = k; rw [hjk, ← HX.out, ← HY.out]; exact HXY.out; exact HALL.out j (by omega)), Lib.hid HB9.out.drew⟩
          case measure => exact meas_step _ (by first | rfl | exact hw1) HKL.out
        · have q1 : (x == y) = false := beq_eq_false_iff_ne.2 hxy
          have q2 : (x != y) = true := by rw [bne, q1]; rfl
          obtain rfl : r = false := Bool.eq_false_iff.2 (fun e => hxy (by rw [HX.out, HY.out, HR.out.1 e]))
          clear hxy
          go_wp2_with fail
          refine Lone.wp_region_order [(0, false), (1, false), (2, false), (3, false), (4, false), (5, false), (6, false), (7, false), (8, false), (9, false), (10, false)] (fun w' => w'.cell? ⟨w.heap.size, 3, none⟩ = some (.slice (some ⟨b1, o1, none⟩) a.who.length ca) ∧ w'.cell? ⟨w.heap.size + 1, 3, none⟩ = some (.slice (some ⟨b2, o2, none⟩) b.who.length cb) ∧ w'.cell? ⟨b1, o1 + k, none⟩ = some (.int .i64 x) ∧ w'.cell? ⟨b2, o2 + k, none⟩ = some (.int .i64 y)) (by kernel_rfl) (by kernel_rfl) rfl (by kernel_rfl) (by intro _ _ d _ _ h; cases d <;> exact h) (⟨c3, d3, e1, e2⟩) ?_; simp only [List.map_cons, List.map_nil, List.getElem?_toArray, List.getElem?_cons_zero, List.getElem?_cons_succ, Option.getD_some]
          repeat (first | (refine Lone.ro_q (by rfl) (v := ?_) ?_ ?_; rotate_left; (focus (intro w' hSw; (try dsimp only at hSw); go_simp; try with_reducible rfl)); simp only [Act.put, List.setIfInBounds_toArray, List.set_cons_zero, List.set_cons_succ]) | (refine Lone.ro_skip (by rfl) ?_; simp only [Act.put, List.setIfInBounds_toArray, List.set_cons_zero, List.set_cons_succ]))
          (refine Lone.ro_nil ?_; go_wp2_with fail)
          go_wp2_with fail
          go_ret
          exact ⟨rfl, HBW.out.trans (HB9.out.drew.mono HBW.out.size)⟩
      · have hkn : k = a.who.length := by omega
        have hkl : decide ((k : Int) < (a.who.length : Int)) = false := decide_eq_false (by omega)
        have HWE := Lib.hid (show a.who = b.who from eq_of_getI HLEN.out (fun j hj => HALL.out j (by omega)))
        by_cases hq0 : a.ref = b.ref
        · have s0 : (a.ref.toList == b.ref.toList) = true := by rw [hq0]; exact beq_self_eq_true _
          by_cases hq1 : a.old = b.old
          · have s1 : (a.old.toList == b.old.toList) = true := by rw [hq1]; exact beq_self_eq_true _
            by_cases hq2 : a.new = b.new
            · have s2 : (a.new.toList == b.new.toList) = true := by rw [hq2]; exact beq_self_eq_true _
              go_wp2_with fail
              (with_reducible refine (same_any a.seals b.seals _ _ _ (HSA.out _ HB9.out) (HSB.out _ HB9.out)).mono ?_)
              rintro e w5 ⟨rfl, hb⟩
              have HB5 := Lib.hid (HB9.out.trans (hb.mono HB9.out.size))
              clear hb
              by_cases hq : a.seals = b.seals
              · rw [decide_eq_true hq]
                obtain rfl : r = true := HR.out.2 (stp_ext hq0 hq1 hq2 HWE.out hq)
                go_wp2_with fail
                go_ret
                exact ⟨rfl, HBW.out.trans (HB5.out.mono HBW.out.size)⟩
              · rw [decide_eq_false hq]
                obtain rfl : r = false := Bool.eq_false_iff.2 (fun e => hq (congrArg Stp.seals (HR.out.1 e)))
                go_wp2_with fail
                go_ret
                exact ⟨rfl, HBW.out.trans (HB5.out.mono HBW.out.size)⟩
            · have s2 : (a.new.toList == b.new.toList) = false := beq_eq_false_iff_ne.2 (fun e => hq2 (toList_inj e))
              obtain rfl : r = false := Bool.eq_false_iff.2 (fun e => hq2 (congrArg Stp.new (HR.out.1 e)))
              clear hq2
              go_wp2_with fail
              go_ret
              exact ⟨rfl, HBW.out.trans (HB9.out.mono HBW.out.size)⟩
          · have s1 : (a.old.toList == b.old.toList) = false := beq_eq_false_iff_ne.2 (fun e => hq1 (toList_inj e))
            obtain rfl : r = false := Bool.eq_false_iff.2 (fun e => hq1 (congrArg Stp.old (HR.out.1 e)))
            clear hq1
            go_wp2_with fail
            go_ret
            exact ⟨rfl, HBW.out.trans (HB9.out.mono HBW.out.size)⟩
        · have s0 : (a.ref.toList == b.ref.toList) = false := beq_eq_false_iff_ne.2 (fun e => hq0 (toList_inj e))
          obtain rfl : r = false := Bool.eq_false_iff.2 (fun e => hq0 (congrArg Stp.ref (HR.out.1 e)))
          clear hq0
          go_wp2_with fail
          go_ret
          exact ⟨rfl, HBW.out.trans (HB9.out.mono HBW.out.size)⟩
  · have n1 : ((a.who.length : Int) == (b.who.length : Int)) = false := beq_eq_false_iff_ne.2 (by omega)
    have n2 : ((a.who.length : Int) != (b.who.length : Int)) = true := by rw [bne, n1]; rfl
    obtain rfl : r = false := Bool.eq_false_iff.2 (fun e => hlen (by rw [HR.out.1 e]))
    clear hlen
    go_wp2_with fail
    go_ret
    exact ⟨rfl, HBW.out⟩
end Go.Proofs.YtinhjnbgblieeaaDoor
