/- The walk of package merkle's Clash. -/
import Derived.Test.YtjfahfecmhnmoaaDoorMerkle6
namespace Go.Proofs.YtjfahfecmhnmoaaDoor
open Go.RowKit
set_option linter.unusedVariables false
set_option linter.unusedSimpArgs false

def Clash2 (w : World) (c : ByteArray × ByteArray) (e : Ending) (w' : World) : Prop := e = .returned (.tuple #[.string c.1, .string c.2]) ∧ Below w.heap.size w w'

set_option maxRecDepth 100000 in
set_option maxHeartbeats 1600000 in
theorem clash2_any : ∀ (N : Nat) (la lb : List ByteArray) (va vb : Value) (w : World), la.length ≤ N → N ≤ 130 → rdS w va la → rdS w vb lb → smalls la → smalls lb → Tab w →
    Calls Tryd.prog 9 #[va, vb] w (Clash2 w (clashF la lb)) := by
  intro N
  induction N with
  | zero =>
    intro la lb va vb w hN hN130 hr hq hs hs2 ht
    have h0 : la.length = 0 := by omega
    by_cases hl : la.length = lb.length
    · have ha : la = [] := List.eq_nil_of_length_eq_zero h0
      have hc : clashF la lb = (⟨#[]⟩, ⟨#[]⟩) := clashF_bad (by rintro ⟨_, h, _⟩; exact h ha)
      rw [hc]
      obtain ⟨ao, cap, rfl⟩ := rdS_form hr
      obtain ⟨ao2, cap2, rfl⟩ := rdS_form hq
      rw [← hl, h0]
      clear hr hq hc hs hs2 ht hN ha hl h0 hN130
      go_enter Tryd.func9, Tryd.ntmps9
      go_wp2_with fail
      go_ret2
      exact ⟨rfl, Below.refl _ _⟩
    · have hc : clashF la lb = (⟨#[]⟩, ⟨#[]⟩) := clashF_bad (by rintro ⟨h, _⟩; exact hl h)
      rw [hc]
      obtain ⟨ao, cap, rfl⟩ := rdS_form hr
      obtain ⟨ao2, cap2, rfl⟩ := rdS_form hq
      have hne : ((la.length : Int) == (lb.length : Int)) = false := by simp; omega
      clear hr hq hc hs hs2 ht hN hN130
      go_enter Tryd.func9, Tryd.ntmps9
      go_wp2_with fail
      go_ret2
      exact ⟨rfl, Below.refl _ _⟩
  | succ N ih =>
    intro la lb va vb w hN hN130 hr hq hs hs2 ht
    by_cases hl : la.length = lb.length
    · by_cases h0 : la.length = 0
      · have ha : la = [] := List.eq_nil_of_length_eq_zero h0
        have hc : clashF la lb = (⟨#[]⟩, ⟨#[]⟩) := clashF_bad (by rintro ⟨_, h, _⟩; exact h ha)
        rw [hc]
        obtain ⟨ao, cap, rfl⟩ := rdS_form hr
        obtain ⟨ao2, cap2, rfl⟩ := rdS_form hq
        rw [← hl, h0]
        clear hr hq hc hs hs2 ht hN ha hl h0 ih hN130
        go_enter Tryd.func9, Tryd.ntmps9
        go_wp2_with fail
        go_ret2
        exact ⟨rfl, Below.refl _ _⟩
      · have HRA := Lib.hid (fun w' (hb : Below w.heap.size w w') => root_any (N + 1) la va w' hN (by omega) (hr.below hb) hs (ht.below hb))
        have HRB := Lib.hid (fun w' (hb : Below w.heap.size w w') => root_any (N + 1) lb vb w' (by omega) (by omega) (hq.below hb) hs2 (ht.below hb))
        have HBw := Lib.hid (Below.refl w.heap.size w)
        have HT := Lib.hid ht
        by_cases hroot : rootF la = rootF lb
        · obtain ⟨rx, hrx⟩ : ∃ r, r = rootF la := ⟨_, rfl⟩
          have HX := Lib.hid (show rx = rootF la ∧ rx = rootF lb from ⟨hrx, hrx.trans hroot⟩)
          clear hrx
          by_cases h1 : la.length = 1
          · obtain ⟨x, rfl⟩ := List.length_eq_one_iff.1 h1
            obtain ⟨y, rfl⟩ := List.length_eq_one_iff.1 (show lb.length = 1 by omega)
            have hc := clashF_one ⟨hl, by simp, hroot⟩ (show ¬ 2 ≤ [x].length by simp)
            simp only [List.getD_cons_zero] at hc
            obtain ⟨b, off, cap, rfl, hcx, hbl⟩ := rdS_at hr 0 (by simp)
            obtain ⟨b2, off2, cap2, rfl, hcy, hbl2⟩ := rdS_at hq 0 (by simp)
            simp only [List.getD_cons_zero, Nat.add_zero, List.length_singleton] at hcx hcy ⊢
            simp only [List.length_singleton] at HRA HRB
            have hx : x.size ≤ 140737488355328 := hs x (by simp)
            have hy : y.size ≤ 140737488355328 := hs2 y (by simp)
            have hoo := beq_yes rx
            have HC0 := Lib.hid (show (w.cell? ⟨b, off, none⟩ = some (.string x) ∧ b < w.heap.size) ∧ (w.cell? ⟨b2, off2, none⟩ = some (.string y) ∧ b2 < w.heap.size) from ⟨⟨hcx, hbl⟩, hcy, hbl2⟩)
            rw [hc]
            clear hr hq hs hs2 ht hN ih hl h0 h1 hc hroot hcx hcy hbl hbl2 hN130
            by_cases hxy : x = y
            · subst hxy
              rw [if_pos rfl]
              have hxx := beq_yes x
              go_enter Tryd.func9, Tryd.ntmps9
              go_wp2_with fail
              (with_reducible refine (HRA.out _ HBw.out).mono ?_)
              rintro e w1 ⟨rfl, hb⟩
              rw [← HX.out.1]
              have HB1 := Lib.hid (HBw.out.trans (hb.mono HBw.out.size))
              clear hb
              go_wp2_with fail
              (with_reducible refine (HRB.out _ HB1.out).mono ?_)
              rintro e w2 ⟨rfl, hb⟩
              rw [← HX.out.2]
              have HB2 := Lib.hid (HB1.out.trans (hb.mono HB1.out.size))
              clear hb
              have d1 : w2.drew.cell? ⟨b, off, none⟩ = some (.string x) := by rw [← HC0.out.1.1]; exact HB2.out.cell (p := ⟨b, off, none⟩) HC0.out.1.2
              have d2 : w2.drew.cell? ⟨b2, off2, none⟩ = some (.string x) := by rw [← HC0.out.2.1]; exact HB2.out.cell (p := ⟨b2, off2, none⟩) HC0.out.2.2
              go_wp2_with fail
              refine Lone.wp_region_order [(0, false), (1, false), (2, false), (3, false), (4, false), (5, false), (6, false)] (fun w' => w'.cell? ⟨b, off, none⟩ = some (.string x) ∧ w'.cell? ⟨b2, off2, none⟩ = some (.string x)) (by kernel_rfl) (by kernel_rfl) rfl (by kernel_rfl) (by intro _ _ d _ _ h; cases d <;> exact h) (⟨d1, d2⟩) ?_; simp only [List.map_cons, List.map_nil, List.getElem?_toArray, List.getElem?_cons_zero, List.getElem?_cons_succ, Option.getD_some]
              repeat (first | (refine Lone.ro_q (by rfl) (v := ?_) ?_ ?_; rotate_left; (focus (intro w' hSw; (try dsimp only at hSw); go_simp; try with_reducible rfl)); simp only [Act.put, List.setIfInBounds_toArray, List.set_cons_zero, List.set_cons_succ]) | (refine Lone.ro_skip (by rfl) ?_; simp only [Act.put, List.setIfInBounds_toArray, List.set_cons_zero, List.set_cons_succ]))
              (refine Lone.ro_nil ?_; go_wp2_with fail)
              go_ret2
              exact ⟨rfl, HB2.out.drew⟩
            · rw [if_neg hxy]
              have hxx := beq_no hxy
              go_enter Tryd.func9, Tryd.ntmps9
              go_wp2_with fail
              (with_reducible refine (HRA.out _ HBw.out).mono ?_)
              rintro e w1 ⟨rfl, hb⟩
              rw [← HX.out.1]
              have HB1 := Lib.hid (HBw.out.trans (hb.mono HBw.out.size))
              clear hb
              go_wp2_with fail
              (with_reducible refine (HRB.out _ HB1.out).mono ?_)
              rintro e w2 ⟨rfl, hb⟩
              rw [← HX.out.2]
              have HB2 := Lib.hid (HB1.out.trans (hb.mono HB1.out.size))
              clear hb
              have d1 : w2.drew.cell? ⟨b, off, none⟩ = some (.string x) := by rw [← HC0.out.1.1]; exact HB2.out.cell (p := ⟨b, off, none⟩) HC0.out.1.2
              have d2 : w2.drew.cell? ⟨b2, off2, none⟩ = some (.string y) := by rw [← HC0.out.2.1]; exact HB2.out.cell (p := ⟨b2, off2, none⟩) HC0.out.2.2
              have d3 : w2.drew.drew.cell? ⟨b, off, none⟩ = some (.string x) := d1
              have d4 : w2.drew.drew.cell? ⟨b2, off2, none⟩ = some (.string y) := d2
              go_wp2_with fail
              refine Lone.wp_region_order [(0, false), (1, false), (2, false), (3, false), (4, false), (5, false), (6, false)] (fun w' => w'.cell? ⟨b, off, none⟩ = some (.string x) ∧ w'.cell? ⟨b2, off2, none⟩ = some (.string y)) (by kernel_rfl) (by kernel_rfl) rfl (by kernel_rfl) (by intro _ _ d _ _ h; cases d <;> exact h) (⟨d1, d2⟩) ?_; simp only [List.map_cons, List.map_nil, List.getElem?_toArray, List.getElem?_cons_zero, List.getElem?_cons_succ, Option.getD_some]
              repeat (first | (refine Lone.ro_q (by rfl) (v := ?_) ?_ ?_; rotate_left; (focus (intro w' hSw; (try dsimp only at hSw); go_simp; try with_reducible rfl)); simp only [Act.put, List.setIfInBounds_toArray, List.set_cons_zero, List.set_cons_succ]) | (refine Lone.ro_skip (by rfl) ?_; simp only [Act.put, List.setIfInBounds_toArray, List.set_cons_zero, List.set_cons_succ]))
              (refine Lone.ro_nil ?_; go_wp2_with fail)
              refine Lone.wp_region_order [(0, false), (1, false), (2, false), (3, false), (4, false), (5, false), (6, false), (7, false), (8, false), (9, false)] (fun w' => w'.cell? ⟨b, off, none⟩ = some (.string x) ∧ w'.cell? ⟨b2, off2, none⟩ = some (.string y)) (by kernel_rfl) (by kernel_rfl) rfl (by kernel_rfl) (by intro _ _ d _ _ h; cases d <;> exact h) (⟨d3, d4⟩) ?_; simp only [List.map_cons, List.map_nil, List.getElem?_toArray, List.getElem?_cons_zero, List.getElem?_cons_succ, Option.getD_some]
              repeat (first | (refine Lone.ro_q (by rfl) (v := ?_) ?_ ?_; rotate_left; (focus (intro w' hSw; (try dsimp only at hSw); go_simp; try with_reducible rfl)); simp only [Act.put, List.setIfInBounds_toArray, List.set_cons_zero, List.set_cons_succ]) | (refine Lone.ro_skip (by rfl) ?_; simp only [Act.put, List.setIfInBounds_toArray, List.set_cons_zero, List.set_cons_succ]))
              refine Lone.ro_q (by rfl) (v := .string (⟨#[0]⟩ ++ x)) (fun w' hSw => by go_simp <;> omega) ?_; simp only [Act.put, List.setIfInBounds_toArray, List.set_cons_zero, List.set_cons_succ]
              repeat (first | (refine Lone.ro_q (by rfl) (v := ?_) ?_ ?_; rotate_left; (focus (intro w' hSw; (try dsimp only at hSw); go_simp; try with_reducible rfl)); simp only [Act.put, List.setIfInBounds_toArray, List.set_cons_zero, List.set_cons_succ]) | (refine Lone.ro_skip (by rfl) ?_; simp only [Act.put, List.setIfInBounds_toArray, List.set_cons_zero, List.set_cons_succ]))
              refine Lone.ro_q (by rfl) (v := .string (⟨#[0]⟩ ++ y)) (fun w' hSw => by go_simp <;> omega) ?_; simp only [Act.put, List.setIfInBounds_toArray, List.set_cons_zero, List.set_cons_succ]
              repeat (first | (refine Lone.ro_q (by rfl) (v := ?_) ?_ ?_; rotate_left; (focus (intro w' hSw; (try dsimp only at hSw); go_simp; try with_reducible rfl)); simp only [Act.put, List.setIfInBounds_toArray, List.set_cons_zero, List.set_cons_succ]) | (refine Lone.ro_skip (by rfl) ?_; simp only [Act.put, List.setIfInBounds_toArray, List.set_cons_zero, List.set_cons_succ]))
              (refine Lone.ro_nil ?_; go_wp2_with fail)
              go_ret2
              exact ⟨rfl, HB2.out.drew.drew⟩
          · have h2 : 2 ≤ la.length := by omega
            have hc := clashF_two ⟨hl, (fun e => h0 (by rw [e]; rfl)), hroot⟩ h2
            have hsp := halfF_spec h2
            obtain ⟨k, hk⟩ : ∃ k, k = halfF la.length := ⟨_, rfl⟩
            rw [← hk] at hsp hc
            obtain ⟨va1, e1, r1⟩ := rdS_to hr k (by omega)
            obtain ⟨va2, e2, r2⟩ := rdS_from hr k (by omega)
            obtain ⟨vb1, e3, r3⟩ := rdS_to hq k (by omega)
            obtain ⟨vb2, e4, r4⟩ := rdS_from hq k (by omega)
            have HA1 := Lib.hid (fun w' (hb : Below w.heap.size w w') => root_any N (la.take k) va1 w' (by rw [List.length_take]; omega) (by omega) (r1.below hb) (smalls_take hs k) (ht.below hb))
            have HA2 := Lib.hid (fun w' (hb : Below w.heap.size w w') => root_any N (la.drop k) va2 w' (by rw [List.length_drop]; omega) (by omega) (r2.below hb) (smalls_drop hs k) (ht.below hb))
            have HC1 := Lib.hid (fun w' (hb : Below w.heap.size w w') => root_any N (lb.take k) vb1 w' (by rw [List.length_take]; omega) (by omega) (r3.below hb) (smalls_take hs2 k) (ht.below hb))
            have HC2 := Lib.hid (fun w' (hb : Below w.heap.size w w') => root_any N (lb.drop k) vb2 w' (by rw [List.length_drop]; omega) (by omega) (r4.below hb) (smalls_drop hs2 k) (ht.below hb))
            have HI1 := Lib.hid (fun w' (hb : Below w.heap.size w w') => ih (la.take k) (lb.take k) va1 vb1 w' (by rw [List.length_take]; omega) (by omega) (r1.below hb) (r3.below hb) (smalls_take hs k) (smalls_take hs2 k) (ht.below hb))
            have HI2 := Lib.hid (fun w' (hb : Below w.heap.size w w') => ih (la.drop k) (lb.drop k) va2 vb2 w' (by rw [List.length_drop]; omega) (by omega) (r2.below hb) (r4.below hb) (smalls_drop hs k) (smalls_drop hs2 k) (ht.below hb))
            obtain ⟨p1, hp1⟩ : ∃ x, x = rootF (la.take k) := ⟨_, rfl⟩
            obtain ⟨p2, hp2⟩ : ∃ x, x = rootF (la.drop k) := ⟨_, rfl⟩
            obtain ⟨p3, hp3⟩ : ∃ x, x = rootF (lb.take k) := ⟨_, rfl⟩
            obtain ⟨p4, hp4⟩ : ∃ x, x = rootF (lb.drop k) := ⟨_, rfl⟩
            have q1 : p1.size ≤ 32 := by rw [hp1, root32]; exact Nat.le_refl _
            have q2 : p2.size ≤ 32 := by rw [hp2, root32]; exact Nat.le_refl _
            have q3 : p3.size ≤ 32 := by rw [hp3, root32]; exact Nat.le_refl _
            have q4 : p4.size ≤ 32 := by rw [hp4, root32]; exact Nat.le_refl _
            obtain ⟨c1, hc1⟩ : ∃ x, x = clashF (la.take k) (lb.take k) := ⟨_, rfl⟩
            obtain ⟨c2, hc2⟩ : ∃ x, x = clashF (la.drop k) (lb.drop k) := ⟨_, rfl⟩
            rw [← hp1, ← hp2, ← hp3, ← hp4, ← hc1, ← hc2] at hc
            have HP := Lib.hid (show p1 = rootF (la.take k) ∧ p2 = rootF (la.drop k) ∧ p3 = rootF (lb.take k) ∧ p4 = rootF (lb.drop k) from ⟨hp1, hp2, hp3, hp4⟩)
            have HCC := Lib.hid (And.intro hc1 hc2)
            obtain ⟨ao, cap, rfl⟩ := rdS_form hr
            obtain ⟨ao2, cap2, rfl⟩ := rdS_form hq
            rw [← hl] at e3 e4 ⊢
            obtain ⟨n, hn⟩ : ∃ n, n = la.length := ⟨_, rfl⟩
            rw [← hn] at hsp e1 e2 e3 e4 h2 hk hN ⊢
            rw [← hn] at HRA
            rw [← hl, ← hn] at HRB
            have E1 := Lib.hid (And.intro e1 (And.intro e2 (And.intro e3 e4)))
            have HK := Lib.hid hk
            have hk1 := hsp.1
            have hk2 := hsp.2.1
            have hn0 : ((n : Int) == 0) = false := by simp; omega
            have hn1 : ((n : Int) == 1) = false := by simp; omega
            have hn131 : n ≤ 131 := by omega
            have hoo := beq_yes rx
            obtain ⟨c, hc0⟩ : ∃ c, c = clashF la lb := ⟨_, rfl⟩
            rw [← hc0] at hc ⊢
            clear hr hq hs hs2 ht hN ih hl h0 h1 hroot hN130 r1 r2 r3 r4 e1 e2 e3 e4 hp1 hp2 hp3 hp4 hc1 hc2 hc0 hn hk hsp h2
            by_cases hx1 : p1 = p3
            · subst hx1
              have ho1 := beq_yes p1
              by_cases hx2 : p2 = p4
              · subst hx2
                have ho2 := beq_yes p2
                rw [if_pos ⟨rfl, rfl⟩] at hc
                obtain ⟨u1, u2⟩ := c1
                by_cases hu : u1 = u2
                · subst hu
                  have ho3 := beq_yes u1
                  simp only [ne_eq, not_true_eq_false, if_false] at hc
                  have HCR := Lib.hid hc
                  clear hc
                  go_enter Tryd.func9, Tryd.ntmps9
                  go_wp2_with fail
                  (with_reducible refine (HRA.out _ HBw.out).mono ?_)
                  rintro e w1 ⟨rfl, hb⟩
                  rw [← HX.out.1]
                  have HB1 := Lib.hid (HBw.out.trans (hb.mono HBw.out.size))
                  clear hb
                  go_wp2_with fail
                  (with_reducible refine (HRB.out _ HB1.out).mono ?_)
                  rintro e w2 ⟨rfl, hb⟩
                  rw [← HX.out.2]
                  have HB2 := Lib.hid (HB1.out.trans (hb.mono HB1.out.size))
                  clear hb
                  go_wp2_with fail
                  refine (half_any n _ (by omega)).mono ?_
                  rintro e w3 ⟨rfl, rfl⟩
                  rw [← HK.out]
                  go_wp2_with fail
                  refine Lone.wp_region_order [(0, false), (1, false), (2, false), (4, false), (5, false), (6, false), (3, true), (7, true), (8, false), (9, false)] (fun w' => True) (by kernel_rfl) (by kernel_rfl) rfl (by kernel_rfl) (by intro _ _ d _ _ h; cases d <;> exact h) (trivial) ?_; simp only [List.map_cons, List.map_nil, List.getElem?_toArray, List.getElem?_cons_zero, List.getElem?_cons_succ, Option.getD_some]
                  repeat (first | (refine Lone.ro_q (by rfl) (v := ?_) ?_ ?_; rotate_left; (focus (intro w' hSw; (try dsimp only at hSw); go_simp; try with_reducible rfl)); simp only [Act.put, List.setIfInBounds_toArray, List.set_cons_zero, List.set_cons_succ]) | (refine Lone.ro_skip (by rfl) ?_; simp only [Act.put, List.setIfInBounds_toArray, List.set_cons_zero, List.set_cons_succ]))
                  refine Lone.ro_q (by rfl) (v := va1) (fun w' hSw => by simp only [execOp, Act.eval, List.getElem?_toArray, List.getElem?_cons_zero, List.getElem?_cons_succ, Array.getD_eq_getD_getElem?, Option.getD_some, Option.map_some, Option.map_none, Sem.run_bind, E1.out.1, Result.andThen, Sem.run_pure]) ?_; simp only [Act.put, List.setIfInBounds_toArray, List.set_cons_zero, List.set_cons_succ]
                  repeat (first | (refine Lone.ro_q (by rfl) (v := ?_) ?_ ?_; rotate_left; (focus (intro w' hSw; (try dsimp only at hSw); go_simp; try with_reducible rfl)); simp only [Act.put, List.setIfInBounds_toArray, List.set_cons_zero, List.set_cons_succ]) | (refine Lone.ro_skip (by rfl) ?_; simp only [Act.put, List.setIfInBounds_toArray, List.set_cons_zero, List.set_cons_succ]))
                  refine Lone.ro_q (by rfl) (v := va2) (fun w' hSw => by simp only [execOp, Act.eval, List.getElem?_toArray, List.getElem?_cons_zero, List.getElem?_cons_succ, Array.getD_eq_getD_getElem?, Option.getD_some, Option.map_some, Option.map_none, Sem.run_bind, E1.out.2.1, Result.andThen, Sem.run_pure]) ?_; simp only [Act.put, List.setIfInBounds_toArray, List.set_cons_zero, List.set_cons_succ]
                  repeat (first | (refine Lone.ro_q (by rfl) (v := ?_) ?_ ?_; rotate_left; (focus (intro w' hSw; (try dsimp only at hSw); go_simp; try with_reducible rfl)); simp only [Act.put, List.setIfInBounds_toArray, List.set_cons_zero, List.set_cons_succ]) | (refine Lone.ro_skip (by rfl) ?_; simp only [Act.put, List.setIfInBounds_toArray, List.set_cons_zero, List.set_cons_succ]))
                  (refine Lone.ro_loud (by rfl) (fun K hK => ?_); go_simp)
                  (with_reducible refine (HA1.out _ HB2.out.drew).mono ?_)
                  rintro e w4 ⟨rfl, hb⟩
                  rw [← HP.out.1]
                  have HB4 := Lib.hid (HB2.out.drew.trans (hb.mono HB2.out.size))
                  clear hb
                  (refine hK.out _ _ (fun w' => True) (.inl fun _ h => h) (trivial) ?_; clear hK K; try simp only [Act.put, List.setIfInBounds_toArray, List.set_cons_zero, List.set_cons_succ])
                  repeat (first | (refine Lone.ro_q (by rfl) (v := ?_) ?_ ?_; rotate_left; (focus (intro w' hSw; (try dsimp only at hSw); go_simp; try with_reducible rfl)); simp only [Act.put, List.setIfInBounds_toArray, List.set_cons_zero, List.set_cons_succ]) | (refine Lone.ro_skip (by rfl) ?_; simp only [Act.put, List.setIfInBounds_toArray, List.set_cons_zero, List.set_cons_succ]))
                  (refine Lone.ro_loud (by rfl) (fun K hK => ?_); go_simp)
                  (with_reducible refine (HA2.out _ HB4.out).mono ?_)
                  rintro e w5 ⟨rfl, hb⟩
                  rw [← HP.out.2.1]
                  have HB5 := Lib.hid (HB4.out.trans (hb.mono HB4.out.size))
                  clear hb
                  (refine hK.out _ _ (fun w' => True) (.inl fun _ h => h) (trivial) ?_; clear hK K; try simp only [Act.put, List.setIfInBounds_toArray, List.set_cons_zero, List.set_cons_succ])
                  repeat (first | (refine Lone.ro_q (by rfl) (v := ?_) ?_ ?_; rotate_left; (focus (intro w' hSw; (try dsimp only at hSw); go_simp; try with_reducible rfl)); simp only [Act.put, List.setIfInBounds_toArray, List.set_cons_zero, List.set_cons_succ]) | (refine Lone.ro_skip (by rfl) ?_; simp only [Act.put, List.setIfInBounds_toArray, List.set_cons_zero, List.set_cons_succ]))
                  (refine Lone.ro_nil ?_; go_wp2_with fail)
                  refine Lone.wp_region_order [(0, false), (1, false), (2, false), (4, false), (5, false), (6, false), (3, true), (7, true), (8, false), (9, false)] (fun w' => True) (by kernel_rfl) (by kernel_rfl) rfl (by kernel_rfl) (by intro _ _ d _ _ h; cases d <;> exact h) (trivial) ?_; simp only [List.map_cons, List.map_nil, List.getElem?_toArray, List.getElem?_cons_zero, List.getElem?_cons_succ, Option.getD_some]
                  repeat (first | (refine Lone.ro_q (by rfl) (v := ?_) ?_ ?_; rotate_left; (focus (intro w' hSw; (try dsimp only at hSw); go_simp; try with_reducible rfl)); simp only [Act.put, List.setIfInBounds_toArray, List.set_cons_zero, List.set_cons_succ]) | (refine Lone.ro_skip (by rfl) ?_; simp only [Act.put, List.setIfInBounds_toArray, List.set_cons_zero, List.set_cons_succ]))
                  refine Lone.ro_q (by rfl) (v := vb1) (fun w' hSw => by simp only [execOp, Act.eval, List.getElem?_toArray, List.getElem?_cons_zero, List.getElem?_cons_succ, Array.getD_eq_getD_getElem?, Option.getD_some, Option.map_some, Option.map_none, Sem.run_bind, E1.out.2.2.1, Result.andThen, Sem.run_pure]) ?_; simp only [Act.put, List.setIfInBounds_toArray, List.set_cons_zero, List.set_cons_succ]
                  repeat (first | (refine Lone.ro_q (by rfl) (v := ?_) ?_ ?_; rotate_left; (focus (intro w' hSw; (try dsimp only at hSw); go_simp; try with_reducible rfl)); simp only [Act.put, List.setIfInBounds_toArray, List.set_cons_zero, List.set_cons_succ]) | (refine Lone.ro_skip (by rfl) ?_; simp only [Act.put, List.setIfInBounds_toArray, List.set_cons_zero, List.set_cons_succ]))
                  refine Lone.ro_q (by rfl) (v := vb2) (fun w' hSw => by simp only [execOp, Act.eval, List.getElem?_toArray, List.getElem?_cons_zero, List.getElem?_cons_succ, Array.getD_eq_getD_getElem?, Option.getD_some, Option.map_some, Option.map_none, Sem.run_bind, E1.out.2.2.2, Result.andThen, Sem.run_pure]) ?_; simp only [Act.put, List.setIfInBounds_toArray, List.set_cons_zero, List.set_cons_succ]
                  repeat (first | (refine Lone.ro_q (by rfl) (v := ?_) ?_ ?_; rotate_left; (focus (intro w' hSw; (try dsimp only at hSw); go_simp; try with_reducible rfl)); simp only [Act.put, List.setIfInBounds_toArray, List.set_cons_zero, List.set_cons_succ]) | (refine Lone.ro_skip (by rfl) ?_; simp only [Act.put, List.setIfInBounds_toArray, List.set_cons_zero, List.set_cons_succ]))
                  (refine Lone.ro_loud (by rfl) (fun K hK => ?_); go_simp)
                  (with_reducible refine (HC1.out _ HB5.out.drew).mono ?_)
                  rintro e w6 ⟨rfl, hb⟩
                  rw [← HP.out.2.2.1]
                  have HB6 := Lib.hid (HB5.out.drew.trans (hb.mono HB5.out.size))
                  clear hb
                  (refine hK.out _ _ (fun w' => True) (.inl fun _ h => h) (trivial) ?_; clear hK K; try simp only [Act.put, List.setIfInBounds_toArray, List.set_cons_zero, List.set_cons_succ])
                  repeat (first | (refine Lone.ro_q (by rfl) (v := ?_) ?_ ?_; rotate_left; (focus (intro w' hSw; (try dsimp only at hSw); go_simp; try with_reducible rfl)); simp only [Act.put, List.setIfInBounds_toArray, List.set_cons_zero, List.set_cons_succ]) | (refine Lone.ro_skip (by rfl) ?_; simp only [Act.put, List.setIfInBounds_toArray, List.set_cons_zero, List.set_cons_succ]))
                  (refine Lone.ro_loud (by rfl) (fun K hK => ?_); go_simp)
                  (with_reducible refine (HC2.out _ HB6.out).mono ?_)
                  rintro e w7 ⟨rfl, hb⟩
                  rw [← HP.out.2.2.2]
                  have HB7 := Lib.hid (HB6.out.trans (hb.mono HB6.out.size))
                  clear hb
                  (refine hK.out _ _ (fun w' => True) (.inl fun _ h => h) (trivial) ?_; clear hK K; try simp only [Act.put, List.setIfInBounds_toArray, List.set_cons_zero, List.set_cons_succ])
                  repeat (first | (refine Lone.ro_q (by rfl) (v := ?_) ?_ ?_; rotate_left; (focus (intro w' hSw; (try dsimp only at hSw); go_simp; try with_reducible rfl)); simp only [Act.put, List.setIfInBounds_toArray, List.set_cons_zero, List.set_cons_succ]) | (refine Lone.ro_skip (by rfl) ?_; simp only [Act.put, List.setIfInBounds_toArray, List.set_cons_zero, List.set_cons_succ]))
                  (refine Lone.ro_nil ?_; go_wp2_with fail)
                  go_wp2_with fail
                  refine Lone.wp_region_order [(0, false), (1, false), (2, false), (3, false), (4, false), (5, false), (6, true), (7, false), (8, false), (9, false), (10, false), (11, false)] (fun w' => True) (by kernel_rfl) (by kernel_rfl) rfl (by kernel_rfl) (by intro _ _ d _ _ h; cases d <;> exact h) (trivial) ?_; simp only [List.map_cons, List.map_nil, List.getElem?_toArray, List.getElem?_cons_zero, List.getElem?_cons_succ, Option.getD_some]
                  repeat (first | (refine Lone.ro_q (by rfl) (v := ?_) ?_ ?_; rotate_left; (focus (intro w' hSw; (try dsimp only at hSw); go_simp; try with_reducible rfl)); simp only [Act.put, List.setIfInBounds_toArray, List.set_cons_zero, List.set_cons_succ]) | (refine Lone.ro_skip (by rfl) ?_; simp only [Act.put, List.setIfInBounds_toArray, List.set_cons_zero, List.set_cons_succ]))
                  refine Lone.ro_q (by rfl) (v := va1) (fun w' hSw => by simp only [execOp, Act.eval, List.getElem?_toArray, List.getElem?_cons_zero, List.getElem?_cons_succ, Array.getD_eq_getD_getElem?, Option.getD_some, Option.map_some, Option.map_none, Sem.run_bind, E1.out.1, Result.andThen, Sem.run_pure]) ?_; simp only [Act.put, List.setIfInBounds_toArray, List.set_cons_zero, List.set_cons_succ]
                  repeat (first | (refine Lone.ro_q (by rfl) (v := ?_) ?_ ?_; rotate_left; (focus (intro w' hSw; (try dsimp only at hSw); go_simp; try with_reducible rfl)); simp only [Act.put, List.setIfInBounds_toArray, List.set_cons_zero, List.set_cons_succ]) | (refine Lone.ro_skip (by rfl) ?_; simp only [Act.put, List.setIfInBounds_toArray, List.set_cons_zero, List.set_cons_succ]))
                  refine Lone.ro_q (by rfl) (v := vb1) (fun w' hSw => by simp only [execOp, Act.eval, List.getElem?_toArray, List.getElem?_cons_zero, List.getElem?_cons_succ, Array.getD_eq_getD_getElem?, Option.getD_some, Option.map_some, Option.map_none, Sem.run_bind, E1.out.2.2.1, Result.andThen, Sem.run_pure]) ?_; simp only [Act.put, List.setIfInBounds_toArray, List.set_cons_zero, List.set_cons_succ]
                  repeat (first | (refine Lone.ro_q (by rfl) (v := ?_) ?_ ?_; rotate_left; (focus (intro w' hSw; (try dsimp only at hSw); go_simp; try with_reducible rfl)); simp only [Act.put, List.setIfInBounds_toArray, List.set_cons_zero, List.set_cons_succ]) | (refine Lone.ro_skip (by rfl) ?_; simp only [Act.put, List.setIfInBounds_toArray, List.set_cons_zero, List.set_cons_succ]))
                  (refine Lone.ro_loud (by rfl) (fun K hK => ?_); go_simp)
                  (with_reducible refine (HI1.out _ HB7.out.drew).mono ?_)
                  rintro e w8 ⟨rfl, hb⟩
                  rw [← HCC.out.1]
                  have HB8 := Lib.hid (HB7.out.drew.trans (hb.mono HB7.out.size))
                  clear hb
                  (refine hK.out _ _ (fun w' => True) (.inl fun _ h => h) (trivial) ?_; clear hK K; try simp only [Act.put, List.setIfInBounds_toArray, List.set_cons_zero, List.set_cons_succ])
                  repeat (first | (refine Lone.ro_q (by rfl) (v := ?_) ?_ ?_; rotate_left; (focus (intro w' hSw; (try dsimp only at hSw); go_simp; try with_reducible rfl)); simp only [Act.put, List.setIfInBounds_toArray, List.set_cons_zero, List.set_cons_succ]) | (refine Lone.ro_skip (by rfl) ?_; simp only [Act.put, List.setIfInBounds_toArray, List.set_cons_zero, List.set_cons_succ]))
                  (refine Lone.ro_nil ?_; go_wp2_with fail)
                  refine Lone.wp_region_order [(0, false), (1, false), (2, false), (3, false), (4, false), (5, false), (6, true), (7, false), (8, false), (9, false), (10, false)] (fun w' => True) (by kernel_rfl) (by kernel_rfl) rfl (by kernel_rfl) (by intro _ _ d _ _ h; cases d <;> exact h) (trivial) ?_; simp only [List.map_cons, List.map_nil, List.getElem?_toArray, List.getElem?_cons_zero, List.getElem?_cons_succ, Option.getD_some]
                  repeat (first | (refine Lone.ro_q (by rfl) (v := ?_) ?_ ?_; rotate_left; (focus (intro w' hSw; (try dsimp only at hSw); go_simp; try with_reducible rfl)); simp only [Act.put, List.setIfInBounds_toArray, List.set_cons_zero, List.set_cons_succ]) | (refine Lone.ro_skip (by rfl) ?_; simp only [Act.put, List.setIfInBounds_toArray, List.set_cons_zero, List.set_cons_succ]))
                  refine Lone.ro_q (by rfl) (v := va2) (fun w' hSw => by simp only [execOp, Act.eval, List.getElem?_toArray, List.getElem?_cons_zero, List.getElem?_cons_succ, Array.getD_eq_getD_getElem?, Option.getD_some, Option.map_some, Option.map_none, Sem.run_bind, E1.out.2.1, Result.andThen, Sem.run_pure]) ?_; simp only [Act.put, List.setIfInBounds_toArray, List.set_cons_zero, List.set_cons_succ]
                  repeat (first | (refine Lone.ro_q (by rfl) (v := ?_) ?_ ?_; rotate_left; (focus (intro w' hSw; (try dsimp only at hSw); go_simp; try with_reducible rfl)); simp only [Act.put, List.setIfInBounds_toArray, List.set_cons_zero, List.set_cons_succ]) | (refine Lone.ro_skip (by rfl) ?_; simp only [Act.put, List.setIfInBounds_toArray, List.set_cons_zero, List.set_cons_succ]))
                  refine Lone.ro_q (by rfl) (v := vb2) (fun w' hSw => by simp only [execOp, Act.eval, List.getElem?_toArray, List.getElem?_cons_zero, List.getElem?_cons_succ, Array.getD_eq_getD_getElem?, Option.getD_some, Option.map_some, Option.map_none, Sem.run_bind, E1.out.2.2.2, Result.andThen, Sem.run_pure]) ?_; simp only [Act.put, List.setIfInBounds_toArray, List.set_cons_zero, List.set_cons_succ]
                  repeat (first | (refine Lone.ro_q (by rfl) (v := ?_) ?_ ?_; rotate_left; (focus (intro w' hSw; (try dsimp only at hSw); go_simp; try with_reducible rfl)); simp only [Act.put, List.setIfInBounds_toArray, List.set_cons_zero, List.set_cons_succ]) | (refine Lone.ro_skip (by rfl) ?_; simp only [Act.put, List.setIfInBounds_toArray, List.set_cons_zero, List.set_cons_succ]))
                  (refine Lone.ro_loud (by rfl) (fun K hK => ?_); go_simp)
                  (with_reducible refine (HI2.out _ HB8.out.drew).mono ?_)
                  rintro e w9 ⟨rfl, hb⟩
                  rw [← HCC.out.2]
                  have HB9 := Lib.hid (HB8.out.drew.trans (hb.mono HB8.out.size))
                  clear hb
                  (refine hK.out _ _ (fun w' => True) (.inl fun _ h => h) (trivial) ?_; clear hK K; try simp only [Act.put, List.setIfInBounds_toArray, List.set_cons_zero, List.set_cons_succ])
                  repeat (first | (refine Lone.ro_q (by rfl) (v := ?_) ?_ ?_; rotate_left; (focus (intro w' hSw; (try dsimp only at hSw); go_simp; try with_reducible rfl)); simp only [Act.put, List.setIfInBounds_toArray, List.set_cons_zero, List.set_cons_succ]) | (refine Lone.ro_skip (by rfl) ?_; simp only [Act.put, List.setIfInBounds_toArray, List.set_cons_zero, List.set_cons_succ]))
                  (refine Lone.ro_nil ?_; go_wp2_with fail)
                  go_ret2
                  exact ⟨(by rw [HCR.out]; rfl), HB9.out⟩
                · have ho3 := beq_no hu
                  rw [if_pos hu] at hc
                  have HCR := Lib.hid hc
                  clear hc hu
                  go_enter Tryd.func9, Tryd.ntmps9
                  go_wp2_with fail
                  (with_reducible refine (HRA.out _ HBw.out).mono ?_)
                  rintro e w1 ⟨rfl, hb⟩
                  rw [← HX.out.1]
                  have HB1 := Lib.hid (HBw.out.trans (hb.mono HBw.out.size))
                  clear hb
                  go_wp2_with fail
                  (with_reducible refine (HRB.out _ HB1.out).mono ?_)
                  rintro e w2 ⟨rfl, hb⟩
                  rw [← HX.out.2]
                  have HB2 := Lib.hid (HB1.out.trans (hb.mono HB1.out.size))
                  clear hb
                  go_wp2_with fail
                  refine (half_any n _ (by omega)).mono ?_
                  rintro e w3 ⟨rfl, rfl⟩
                  rw [← HK.out]
                  go_wp2_with fail
                  refine Lone.wp_region_order [(0, false), (1, false), (2, false), (4, false), (5, false), (6, false), (3, true), (7, true), (8, false), (9, false)] (fun w' => True) (by kernel_rfl) (by kernel_rfl) rfl (by kernel_rfl) (by intro _ _ d _ _ h; cases d <;> exact h) (trivial) ?_; simp only [List.map_cons, List.map_nil, List.getElem?_toArray, List.getElem?_cons_zero, List.getElem?_cons_succ, Option.getD_some]
                  repeat (first | (refine Lone.ro_q (by rfl) (v := ?_) ?_ ?_; rotate_left; (focus (intro w' hSw; (try dsimp only at hSw); go_simp; try with_reducible rfl)); simp only [Act.put, List.setIfInBounds_toArray, List.set_cons_zero, List.set_cons_succ]) | (refine Lone.ro_skip (by rfl) ?_; simp only [Act.put, List.setIfInBounds_toArray, List.set_cons_zero, List.set_cons_succ]))
                  refine Lone.ro_q (by rfl) (v := va1) (fun w' hSw => by simp only [execOp, Act.eval, List.getElem?_toArray, List.getElem?_cons_zero, List.getElem?_cons_succ, Array.getD_eq_getD_getElem?, Option.getD_some, Option.map_some, Option.map_none, Sem.run_bind, E1.out.1, Result.andThen, Sem.run_pure]) ?_; simp only [Act.put, List.setIfInBounds_toArray, List.set_cons_zero, List.set_cons_succ]
                  repeat (first | (refine Lone.ro_q (by rfl) (v := ?_) ?_ ?_; rotate_left; (focus (intro w' hSw; (try dsimp only at hSw); go_simp; try with_reducible rfl)); simp only [Act.put, List.setIfInBounds_toArray, List.set_cons_zero, List.set_cons_succ]) | (refine Lone.ro_skip (by rfl) ?_; simp only [Act.put, List.setIfInBounds_toArray, List.set_cons_zero, List.set_cons_succ]))
                  refine Lone.ro_q (by rfl) (v := va2) (fun w' hSw => by simp only [execOp, Act.eval, List.getElem?_toArray, List.getElem?_cons_zero, List.getElem?_cons_succ, Array.getD_eq_getD_getElem?, Option.getD_some, Option.map_some, Option.map_none, Sem.run_bind, E1.out.2.1, Result.andThen, Sem.run_pure]) ?_; simp only [Act.put, List.setIfInBounds_toArray, List.set_cons_zero, List.set_cons_succ]
                  repeat (first | (refine Lone.ro_q (by rfl) (v := ?_) ?_ ?_; rotate_left; (focus (intro w' hSw; (try dsimp only at hSw); go_simp; try with_reducible rfl)); simp only [Act.put, List.setIfInBounds_toArray, List.set_cons_zero, List.set_cons_succ]) | (refine Lone.ro_skip (by rfl) ?_; simp only [Act.put, List.setIfInBounds_toArray, List.set_cons_zero, List.set_cons_succ]))
                  (refine Lone.ro_loud (by rfl) (fun K hK => ?_); go_simp)
                  (with_reducible refine (HA1.out _ HB2.out.drew).mono ?_)
                  rintro e w4 ⟨rfl, hb⟩
                  rw [← HP.out.1]
                  have HB4 := Lib.hid (HB2.out.drew.trans (hb.mono HB2.out.size))
                  clear hb
                  (refine hK.out _ _ (fun w' => True) (.inl fun _ h => h) (trivial) ?_; clear hK K; try simp only [Act.put, List.setIfInBounds_toArray, List.set_cons_zero, List.set_cons_succ])
                  repeat (first | (refine Lone.ro_q (by rfl) (v := ?_) ?_ ?_; rotate_left; (focus (intro w' hSw; (try dsimp only at hSw); go_simp; try with_reducible rfl)); simp only [Act.put, List.setIfInBounds_toArray, List.set_cons_zero, List.set_cons_succ]) | (refine Lone.ro_skip (by rfl) ?_; simp only [Act.put, List.setIfInBounds_toArray, List.set_cons_zero, List.set_cons_succ]))
                  (refine Lone.ro_loud (by rfl) (fun K hK => ?_); go_simp)
                  (with_reducible refine (HA2.out _ HB4.out).mono ?_)
                  rintro e w5 ⟨rfl, hb⟩
                  rw [← HP.out.2.1]
                  have HB5 := Lib.hid (HB4.out.trans (hb.mono HB4.out.size))
                  clear hb
                  (refine hK.out _ _ (fun w' => True) (.inl fun _ h => h) (trivial) ?_; clear hK K; try simp only [Act.put, List.setIfInBounds_toArray, List.set_cons_zero, List.set_cons_succ])
                  repeat (first | (refine Lone.ro_q (by rfl) (v := ?_) ?_ ?_; rotate_left; (focus (intro w' hSw; (try dsimp only at hSw); go_simp; try with_reducible rfl)); simp only [Act.put, List.setIfInBounds_toArray, List.set_cons_zero, List.set_cons_succ]) | (refine Lone.ro_skip (by rfl) ?_; simp only [Act.put, List.setIfInBounds_toArray, List.set_cons_zero, List.set_cons_succ]))
                  (refine Lone.ro_nil ?_; go_wp2_with fail)
                  refine Lone.wp_region_order [(0, false), (1, false), (2, false), (4, false), (5, false), (6, false), (3, true), (7, true), (8, false), (9, false)] (fun w' => True) (by kernel_rfl) (by kernel_rfl) rfl (by kernel_rfl) (by intro _ _ d _ _ h; cases d <;> exact h) (trivial) ?_; simp only [List.map_cons, List.map_nil, List.getElem?_toArray, List.getElem?_cons_zero, List.getElem?_cons_succ, Option.getD_some]
                  repeat (first | (refine Lone.ro_q (by rfl) (v := ?_) ?_ ?_; rotate_left; (focus (intro w' hSw; (try dsimp only at hSw); go_simp; try with_reducible rfl)); simp only [Act.put, List.setIfInBounds_toArray, List.set_cons_zero, List.set_cons_succ]) | (refine Lone.ro_skip (by rfl) ?_; simp only [Act.put, List.setIfInBounds_toArray, List.set_cons_zero, List.set_cons_succ]))
                  refine Lone.ro_q (by rfl) (v := vb1) (fun w' hSw => by simp only [execOp, Act.eval, List.getElem?_toArray, List.getElem?_cons_zero, List.getElem?_cons_succ, Array.getD_eq_getD_getElem?, Option.getD_some, Option.map_some, Option.map_none, Sem.run_bind, E1.out.2.2.1, Result.andThen, Sem.run_pure]) ?_; simp only [Act.put, List.setIfInBounds_toArray, List.set_cons_zero, List.set_cons_succ]
                  repeat (first | (refine Lone.ro_q (by rfl) (v := ?_) ?_ ?_; rotate_left; (focus (intro w' hSw; (try dsimp only at hSw); go_simp; try with_reducible rfl)); simp only [Act.put, List.setIfInBounds_toArray, List.set_cons_zero, List.set_cons_succ]) | (refine Lone.ro_skip (by rfl) ?_; simp only [Act.put, List.setIfInBounds_toArray, List.set_cons_zero, List.set_cons_succ]))
                  refine Lone.ro_q (by rfl) (v := vb2) (fun w' hSw => by simp only [execOp, Act.eval, List.getElem?_toArray, List.getElem?_cons_zero, List.getElem?_cons_succ, Array.getD_eq_getD_getElem?, Option.getD_some, Option.map_some, Option.map_none, Sem.run_bind, E1.out.2.2.2, Result.andThen, Sem.run_pure]) ?_; simp only [Act.put, List.setIfInBounds_toArray, List.set_cons_zero, List.set_cons_succ]
                  repeat (first | (refine Lone.ro_q (by rfl) (v := ?_) ?_ ?_; rotate_left; (focus (intro w' hSw; (try dsimp only at hSw); go_simp; try with_reducible rfl)); simp only [Act.put, List.setIfInBounds_toArray, List.set_cons_zero, List.set_cons_succ]) | (refine Lone.ro_skip (by rfl) ?_; simp only [Act.put, List.setIfInBounds_toArray, List.set_cons_zero, List.set_cons_succ]))
                  (refine Lone.ro_loud (by rfl) (fun K hK => ?_); go_simp)
                  (with_reducible refine (HC1.out _ HB5.out.drew).mono ?_)
                  rintro e w6 ⟨rfl, hb⟩
                  rw [← HP.out.2.2.1]
                  have HB6 := Lib.hid (HB5.out.drew.trans (hb.mono HB5.out.size))
                  clear hb
                  (refine hK.out _ _ (fun w' => True) (.inl fun _ h => h) (trivial) ?_; clear hK K; try simp only [Act.put, List.setIfInBounds_toArray, List.set_cons_zero, List.set_cons_succ])
                  repeat (first | (refine Lone.ro_q (by rfl) (v := ?_) ?_ ?_; rotate_left; (focus (intro w' hSw; (try dsimp only at hSw); go_simp; try with_reducible rfl)); simp only [Act.put, List.setIfInBounds_toArray, List.set_cons_zero, List.set_cons_succ]) | (refine Lone.ro_skip (by rfl) ?_; simp only [Act.put, List.setIfInBounds_toArray, List.set_cons_zero, List.set_cons_succ]))
                  (refine Lone.ro_loud (by rfl) (fun K hK => ?_); go_simp)
                  (with_reducible refine (HC2.out _ HB6.out).mono ?_)
                  rintro e w7 ⟨rfl, hb⟩
                  rw [← HP.out.2.2.2]
                  have HB7 := Lib.hid (HB6.out.trans (hb.mono HB6.out.size))
                  clear hb
                  (refine hK.out _ _ (fun w' => True) (.inl fun _ h => h) (trivial) ?_; clear hK K; try simp only [Act.put, List.setIfInBounds_toArray, List.set_cons_zero, List.set_cons_succ])
                  repeat (first | (refine Lone.ro_q (by rfl) (v := ?_) ?_ ?_; rotate_left; (focus (intro w' hSw; (try dsimp only at hSw); go_simp; try with_reducible rfl)); simp only [Act.put, List.setIfInBounds_toArray, List.set_cons_zero, List.set_cons_succ]) | (refine Lone.ro_skip (by rfl) ?_; simp only [Act.put, List.setIfInBounds_toArray, List.set_cons_zero, List.set_cons_succ]))
                  (refine Lone.ro_nil ?_; go_wp2_with fail)
                  go_wp2_with fail
                  refine Lone.wp_region_order [(0, false), (1, false), (2, false), (3, false), (4, false), (5, false), (6, true), (7, false), (8, false), (9, false), (10, false), (11, false)] (fun w' => True) (by kernel_rfl) (by kernel_rfl) rfl (by kernel_rfl) (by intro _ _ d _ _ h; cases d <;> exact h) (trivial) ?_; simp only [List.map_cons, List.map_nil, List.getElem?_toArray, List.getElem?_cons_zero, List.getElem?_cons_succ, Option.getD_some]
                  repeat (first | (refine Lone.ro_q (by rfl) (v := ?_) ?_ ?_; rotate_left; (focus (intro w' hSw; (try dsimp only at hSw); go_simp; try with_reducible rfl)); simp only [Act.put, List.setIfInBounds_toArray, List.set_cons_zero, List.set_cons_succ]) | (refine Lone.ro_skip (by rfl) ?_; simp only [Act.put, List.setIfInBounds_toArray, List.set_cons_zero, List.set_cons_succ]))
                  refine Lone.ro_q (by rfl) (v := va1) (fun w' hSw => by simp only [execOp, Act.eval, List.getElem?_toArray, List.getElem?_cons_zero, List.getElem?_cons_succ, Array.getD_eq_getD_getElem?, Option.getD_some, Option.map_some, Option.map_none, Sem.run_bind, E1.out.1, Result.andThen, Sem.run_pure]) ?_; simp only [Act.put, List.setIfInBounds_toArray, List.set_cons_zero, List.set_cons_succ]
                  repeat (first | (refine Lone.ro_q (by rfl) (v := ?_) ?_ ?_; rotate_left; (focus (intro w' hSw; (try dsimp only at hSw); go_simp; try with_reducible rfl)); simp only [Act.put, List.setIfInBounds_toArray, List.set_cons_zero, List.set_cons_succ]) | (refine Lone.ro_skip (by rfl) ?_; simp only [Act.put, List.setIfInBounds_toArray, List.set_cons_zero, List.set_cons_succ]))
                  refine Lone.ro_q (by rfl) (v := vb1) (fun w' hSw => by simp only [execOp, Act.eval, List.getElem?_toArray, List.getElem?_cons_zero, List.getElem?_cons_succ, Array.getD_eq_getD_getElem?, Option.getD_some, Option.map_some, Option.map_none, Sem.run_bind, E1.out.2.2.1, Result.andThen, Sem.run_pure]) ?_; simp only [Act.put, List.setIfInBounds_toArray, List.set_cons_zero, List.set_cons_succ]
                  repeat (first | (refine Lone.ro_q (by rfl) (v := ?_) ?_ ?_; rotate_left; (focus (intro w' hSw; (try dsimp only at hSw); go_simp; try with_reducible rfl)); simp only [Act.put, List.setIfInBounds_toArray, List.set_cons_zero, List.set_cons_succ]) | (refine Lone.ro_skip (by rfl) ?_; simp only [Act.put, List.setIfInBounds_toArray, List.set_cons_zero, List.set_cons_succ]))
                  (refine Lone.ro_loud (by rfl) (fun K hK => ?_); go_simp)
                  (with_reducible refine (HI1.out _ HB7.out.drew).mono ?_)
                  rintro e w8 ⟨rfl, hb⟩
                  rw [← HCC.out.1]
                  have HB8 := Lib.hid (HB7.out.drew.trans (hb.mono HB7.out.size))
                  clear hb
                  (refine hK.out _ _ (fun w' => True) (.inl fun _ h => h) (trivial) ?_; clear hK K; try simp only [Act.put, List.setIfInBounds_toArray, List.set_cons_zero, List.set_cons_succ])
                  repeat (first | (refine Lone.ro_q (by rfl) (v := ?_) ?_ ?_; rotate_left; (focus (intro w' hSw; (try dsimp only at hSw); go_simp; try with_reducible rfl)); simp only [Act.put, List.setIfInBounds_toArray, List.set_cons_zero, List.set_cons_succ]) | (refine Lone.ro_skip (by rfl) ?_; simp only [Act.put, List.setIfInBounds_toArray, List.set_cons_zero, List.set_cons_succ]))
                  (refine Lone.ro_nil ?_; go_wp2_with fail)
                  go_ret2
                  exact ⟨(by rw [HCR.out]; rfl), HB8.out⟩
              · have ho2 := beq_no hx2
                rw [if_neg (fun e => hx2 e.2)] at hc
                have HCR := Lib.hid hc
                clear hc hx2
                go_enter Tryd.func9, Tryd.ntmps9
                go_wp2_with fail
                (with_reducible refine (HRA.out _ HBw.out).mono ?_)
                rintro e w1 ⟨rfl, hb⟩
                rw [← HX.out.1]
                have HB1 := Lib.hid (HBw.out.trans (hb.mono HBw.out.size))
                clear hb
                go_wp2_with fail
                (with_reducible refine (HRB.out _ HB1.out).mono ?_)
                rintro e w2 ⟨rfl, hb⟩
                rw [← HX.out.2]
                have HB2 := Lib.hid (HB1.out.trans (hb.mono HB1.out.size))
                clear hb
                go_wp2_with fail
                refine (half_any n _ (by omega)).mono ?_
                rintro e w3 ⟨rfl, rfl⟩
                rw [← HK.out]
                go_wp2_with fail
                refine Lone.wp_region_order [(0, false), (1, false), (2, false), (4, false), (5, false), (6, false), (3, true), (7, true), (8, false), (9, false)] (fun w' => True) (by kernel_rfl) (by kernel_rfl) rfl (by kernel_rfl) (by intro _ _ d _ _ h; cases d <;> exact h) (trivial) ?_; simp only [List.map_cons, List.map_nil, List.getElem?_toArray, List.getElem?_cons_zero, List.getElem?_cons_succ, Option.getD_some]
                repeat (first | (refine Lone.ro_q (by rfl) (v := ?_) ?_ ?_; rotate_left; (focus (intro w' hSw; (try dsimp only at hSw); go_simp; try with_reducible rfl)); simp only [Act.put, List.setIfInBounds_toArray, List.set_cons_zero, List.set_cons_succ]) | (refine Lone.ro_skip (by rfl) ?_; simp only [Act.put, List.setIfInBounds_toArray, List.set_cons_zero, List.set_cons_succ]))
                refine Lone.ro_q (by rfl) (v := va1) (fun w' hSw => by simp only [execOp, Act.eval, List.getElem?_toArray, List.getElem?_cons_zero, List.getElem?_cons_succ, Array.getD_eq_getD_getElem?, Option.getD_some, Option.map_some, Option.map_none, Sem.run_bind, E1.out.1, Result.andThen, Sem.run_pure]) ?_; simp only [Act.put, List.setIfInBounds_toArray, List.set_cons_zero, List.set_cons_succ]
                repeat (first | (refine Lone.ro_q (by rfl) (v := ?_) ?_ ?_; rotate_left; (focus (intro w' hSw; (try dsimp only at hSw); go_simp; try with_reducible rfl)); simp only [Act.put, List.setIfInBounds_toArray, List.set_cons_zero, List.set_cons_succ]) | (refine Lone.ro_skip (by rfl) ?_; simp only [Act.put, List.setIfInBounds_toArray, List.set_cons_zero, List.set_cons_succ]))
                refine Lone.ro_q (by rfl) (v := va2) (fun w' hSw => by simp only [execOp, Act.eval, List.getElem?_toArray, List.getElem?_cons_zero, List.getElem?_cons_succ, Array.getD_eq_getD_getElem?, Option.getD_some, Option.map_some, Option.map_none, Sem.run_bind, E1.out.2.1, Result.andThen, Sem.run_pure]) ?_; simp only [Act.put, List.setIfInBounds_toArray, List.set_cons_zero, List.set_cons_succ]
                repeat (first | (refine Lone.ro_q (by rfl) (v := ?_) ?_ ?_; rotate_left; (focus (intro w' hSw; (try dsimp only at hSw); go_simp; try with_reducible rfl)); simp only [Act.put, List.setIfInBounds_toArray, List.set_cons_zero, List.set_cons_succ]) | (refine Lone.ro_skip (by rfl) ?_; simp only [Act.put, List.setIfInBounds_toArray, List.set_cons_zero, List.set_cons_succ]))
                (refine Lone.ro_loud (by rfl) (fun K hK => ?_); go_simp)
                (with_reducible refine (HA1.out _ HB2.out.drew).mono ?_)
                rintro e w4 ⟨rfl, hb⟩
                rw [← HP.out.1]
                have HB4 := Lib.hid (HB2.out.drew.trans (hb.mono HB2.out.size))
                clear hb
                (refine hK.out _ _ (fun w' => True) (.inl fun _ h => h) (trivial) ?_; clear hK K; try simp only [Act.put, List.setIfInBounds_toArray, List.set_cons_zero, List.set_cons_succ])
                repeat (first | (refine Lone.ro_q (by rfl) (v := ?_) ?_ ?_; rotate_left; (focus (intro w' hSw; (try dsimp only at hSw); go_simp; try with_reducible rfl)); simp only [Act.put, List.setIfInBounds_toArray, List.set_cons_zero, List.set_cons_succ]) | (refine Lone.ro_skip (by rfl) ?_; simp only [Act.put, List.setIfInBounds_toArray, List.set_cons_zero, List.set_cons_succ]))
                (refine Lone.ro_loud (by rfl) (fun K hK => ?_); go_simp)
                (with_reducible refine (HA2.out _ HB4.out).mono ?_)
                rintro e w5 ⟨rfl, hb⟩
                rw [← HP.out.2.1]
                have HB5 := Lib.hid (HB4.out.trans (hb.mono HB4.out.size))
                clear hb
                (refine hK.out _ _ (fun w' => True) (.inl fun _ h => h) (trivial) ?_; clear hK K; try simp only [Act.put, List.setIfInBounds_toArray, List.set_cons_zero, List.set_cons_succ])
                repeat (first | (refine Lone.ro_q (by rfl) (v := ?_) ?_ ?_; rotate_left; (focus (intro w' hSw; (try dsimp only at hSw); go_simp; try with_reducible rfl)); simp only [Act.put, List.setIfInBounds_toArray, List.set_cons_zero, List.set_cons_succ]) | (refine Lone.ro_skip (by rfl) ?_; simp only [Act.put, List.setIfInBounds_toArray, List.set_cons_zero, List.set_cons_succ]))
                (refine Lone.ro_nil ?_; go_wp2_with fail)
                refine Lone.wp_region_order [(0, false), (1, false), (2, false), (4, false), (5, false), (6, false), (3, true), (7, true), (8, false), (9, false)] (fun w' => True) (by kernel_rfl) (by kernel_rfl) rfl (by kernel_rfl) (by intro _ _ d _ _ h; cases d <;> exact h) (trivial) ?_; simp only [List.map_cons, List.map_nil, List.getElem?_toArray, List.getElem?_cons_zero, List.getElem?_cons_succ, Option.getD_some]
                repeat (first | (refine Lone.ro_q (by rfl) (v := ?_) ?_ ?_; rotate_left; (focus (intro w' hSw; (try dsimp only at hSw); go_simp; try with_reducible rfl)); simp only [Act.put, List.setIfInBounds_toArray, List.set_cons_zero, List.set_cons_succ]) | (refine Lone.ro_skip (by rfl) ?_; simp only [Act.put, List.setIfInBounds_toArray, List.set_cons_zero, List.set_cons_succ]))
                refine Lone.ro_q (by rfl) (v := vb1) (fun w' hSw => by simp only [execOp, Act.eval, List.getElem?_toArray, List.getElem?_cons_zero, List.getElem?_cons_succ, Array.getD_eq_getD_getElem?, Option.getD_some, Option.map_some, Option.map_none, Sem.run_bind, E1.out.2.2.1, Result.andThen, Sem.run_pure]) ?_; simp only [Act.put, List.setIfInBounds_toArray, List.set_cons_zero, List.set_cons_succ]
                repeat (first | (refine Lone.ro_q (by rfl) (v := ?_) ?_ ?_; rotate_left; (focus (intro w' hSw; (try dsimp only at hSw); go_simp; try with_reducible rfl)); simp only [Act.put, List.setIfInBounds_toArray, List.set_cons_zero, List.set_cons_succ]) | (refine Lone.ro_skip (by rfl) ?_; simp only [Act.put, List.setIfInBounds_toArray, List.set_cons_zero, List.set_cons_succ]))
                refine Lone.ro_q (by rfl) (v := vb2) (fun w' hSw => by simp only [execOp, Act.eval, List.getElem?_toArray, List.getElem?_cons_zero, List.getElem?_cons_succ, Array.getD_eq_getD_getElem?, Option.getD_some, Option.map_some, Option.map_none, Sem.run_bind, E1.out.2.2.2, Result.andThen, Sem.run_pure]) ?_; simp only [Act.put, List.setIfInBounds_toArray, List.set_cons_zero, List.set_cons_succ]
                repeat (first | (refine Lone.ro_q (by rfl) (v := ?_) ?_ ?_; rotate_left; (focus (intro w' hSw; (try dsimp only at hSw); go_simp; try with_reducible rfl)); simp only [Act.put, List.setIfInBounds_toArray, List.set_cons_zero, List.set_cons_succ]) | (refine Lone.ro_skip (by rfl) ?_; simp only [Act.put, List.setIfInBounds_toArray, List.set_cons_zero, List.set_cons_succ]))
                (refine Lone.ro_loud (by rfl) (fun K hK => ?_); go_simp)
                (with_reducible refine (HC1.out _ HB5.out.drew).mono ?_)
                rintro e w6 ⟨rfl, hb⟩
                rw [← HP.out.2.2.1]
                have HB6 := Lib.hid (HB5.out.drew.trans (hb.mono HB5.out.size))
                clear hb
                (refine hK.out _ _ (fun w' => True) (.inl fun _ h => h) (trivial) ?_; clear hK K; try simp only [Act.put, List.setIfInBounds_toArray, List.set_cons_zero, List.set_cons_succ])
                repeat (first | (refine Lone.ro_q (by rfl) (v := ?_) ?_ ?_; rotate_left; (focus (intro w' hSw; (try dsimp only at hSw); go_simp; try with_reducible rfl)); simp only [Act.put, List.setIfInBounds_toArray, List.set_cons_zero, List.set_cons_succ]) | (refine Lone.ro_skip (by rfl) ?_; simp only [Act.put, List.setIfInBounds_toArray, List.set_cons_zero, List.set_cons_succ]))
                (refine Lone.ro_loud (by rfl) (fun K hK => ?_); go_simp)
                (with_reducible refine (HC2.out _ HB6.out).mono ?_)
                rintro e w7 ⟨rfl, hb⟩
                rw [← HP.out.2.2.2]
                have HB7 := Lib.hid (HB6.out.trans (hb.mono HB6.out.size))
                clear hb
                (refine hK.out _ _ (fun w' => True) (.inl fun _ h => h) (trivial) ?_; clear hK K; try simp only [Act.put, List.setIfInBounds_toArray, List.set_cons_zero, List.set_cons_succ])
                repeat (first | (refine Lone.ro_q (by rfl) (v := ?_) ?_ ?_; rotate_left; (focus (intro w' hSw; (try dsimp only at hSw); go_simp; try with_reducible rfl)); simp only [Act.put, List.setIfInBounds_toArray, List.set_cons_zero, List.set_cons_succ]) | (refine Lone.ro_skip (by rfl) ?_; simp only [Act.put, List.setIfInBounds_toArray, List.set_cons_zero, List.set_cons_succ]))
                (refine Lone.ro_nil ?_; go_wp2_with fail)
                go_wp2_with fail
                go_ret2
                exact ⟨(by rw [HCR.out]; rfl), HB7.out⟩
            · have ho1 := beq_no hx1
              rw [if_neg (fun e => hx1 e.1)] at hc
              have HCR := Lib.hid hc
              clear hc hx1
              go_enter Tryd.func9, Tryd.ntmps9
              go_wp2_with fail
              (with_reducible refine (HRA.out _ HBw.out).mono ?_)
              rintro e w1 ⟨rfl, hb⟩
              rw [← HX.out.1]
              have HB1 := Lib.hid (HBw.out.trans (hb.mono HBw.out.size))
              clear hb
              go_wp2_with fail
              (with_reducible refine (HRB.out _ HB1.out).mono ?_)
              rintro e w2 ⟨rfl, hb⟩
              rw [← HX.out.2]
              have HB2 := Lib.hid (HB1.out.trans (hb.mono HB1.out.size))
              clear hb
              go_wp2_with fail
              refine (half_any n _ (by omega)).mono ?_
              rintro e w3 ⟨rfl, rfl⟩
              rw [← HK.out]
              go_wp2_with fail
              refine Lone.wp_region_order [(0, false), (1, false), (2, false), (4, false), (5, false), (6, false), (3, true), (7, true), (8, false), (9, false)] (fun w' => True) (by kernel_rfl) (by kernel_rfl) rfl (by kernel_rfl) (by intro _ _ d _ _ h; cases d <;> exact h) (trivial) ?_; simp only [List.map_cons, List.map_nil, List.getElem?_toArray, List.getElem?_cons_zero, List.getElem?_cons_succ, Option.getD_some]
              repeat (first | (refine Lone.ro_q (by rfl) (v := ?_) ?_ ?_; rotate_left; (focus (intro w' hSw; (try dsimp only at hSw); go_simp; try with_reducible rfl)); simp only [Act.put, List.setIfInBounds_toArray, List.set_cons_zero, List.set_cons_succ]) | (refine Lone.ro_skip (by rfl) ?_; simp only [Act.put, List.setIfInBounds_toArray, List.set_cons_zero, List.set_cons_succ]))
              refine Lone.ro_q (by rfl) (v := va1) (fun w' hSw => by simp only [execOp, Act.eval, List.getElem?_toArray, List.getElem?_cons_zero, List.getElem?_cons_succ, Array.getD_eq_getD_getElem?, Option.getD_some, Option.map_some, Option.map_none, Sem.run_bind, E1.out.1, Result.andThen, Sem.run_pure]) ?_; simp only [Act.put, List.setIfInBounds_toArray, List.set_cons_zero, List.set_cons_succ]
              repeat (first | (refine Lone.ro_q (by rfl) (v := ?_) ?_ ?_; rotate_left; (focus (intro w' hSw; (try dsimp only at hSw); go_simp; try with_reducible rfl)); simp only [Act.put, List.setIfInBounds_toArray, List.set_cons_zero, List.set_cons_succ]) | (refine Lone.ro_skip (by rfl) ?_; simp only [Act.put, List.setIfInBounds_toArray, List.set_cons_zero, List.set_cons_succ]))
              refine Lone.ro_q (by rfl) (v := va2) (fun w' hSw => by simp only [execOp, Act.eval, List.getElem?_toArray, List.getElem?_cons_zero, List.getElem?_cons_succ, Array.getD_eq_getD_getElem?, Option.getD_some, Option.map_some, Option.map_none, Sem.run_bind, E1.out.2.1, Result.andThen, Sem.run_pure]) ?_; simp only [Act.put, List.setIfInBounds_toArray, List.set_cons_zero, List.set_cons_succ]
              repeat (first | (refine Lone.ro_q (by rfl) (v := ?_) ?_ ?_; rotate_left; (focus (intro w' hSw; (try dsimp only at hSw); go_simp; try with_reducible rfl)); simp only [Act.put, List.setIfInBounds_toArray, List.set_cons_zero, List.set_cons_succ]) | (refine Lone.ro_skip (by rfl) ?_; simp only [Act.put, List.setIfInBounds_toArray, List.set_cons_zero, List.set_cons_succ]))
              (refine Lone.ro_loud (by rfl) (fun K hK => ?_); go_simp)
              (with_reducible refine (HA1.out _ HB2.out.drew).mono ?_)
              rintro e w4 ⟨rfl, hb⟩
              rw [← HP.out.1]
              have HB4 := Lib.hid (HB2.out.drew.trans (hb.mono HB2.out.size))
              clear hb
              (refine hK.out _ _ (fun w' => True) (.inl fun _ h => h) (trivial) ?_; clear hK K; try simp only [Act.put, List.setIfInBounds_toArray, List.set_cons_zero, List.set_cons_succ])
              repeat (first | (refine Lone.ro_q (by rfl) (v := ?_) ?_ ?_; rotate_left; (focus (intro w' hSw; (try dsimp only at hSw); go_simp; try with_reducible rfl)); simp only [Act.put, List.setIfInBounds_toArray, List.set_cons_zero, List.set_cons_succ]) | (refine Lone.ro_skip (by rfl) ?_; simp only [Act.put, List.setIfInBounds_toArray, List.set_cons_zero, List.set_cons_succ]))
              (refine Lone.ro_loud (by rfl) (fun K hK => ?_); go_simp)
              (with_reducible refine (HA2.out _ HB4.out).mono ?_)
              rintro e w5 ⟨rfl, hb⟩
              rw [← HP.out.2.1]
              have HB5 := Lib.hid (HB4.out.trans (hb.mono HB4.out.size))
              clear hb
              (refine hK.out _ _ (fun w' => True) (.inl fun _ h => h) (trivial) ?_; clear hK K; try simp only [Act.put, List.setIfInBounds_toArray, List.set_cons_zero, List.set_cons_succ])
              repeat (first | (refine Lone.ro_q (by rfl) (v := ?_) ?_ ?_; rotate_left; (focus (intro w' hSw; (try dsimp only at hSw); go_simp; try with_reducible rfl)); simp only [Act.put, List.setIfInBounds_toArray, List.set_cons_zero, List.set_cons_succ]) | (refine Lone.ro_skip (by rfl) ?_; simp only [Act.put, List.setIfInBounds_toArray, List.set_cons_zero, List.set_cons_succ]))
              (refine Lone.ro_nil ?_; go_wp2_with fail)
              refine Lone.wp_region_order [(0, false), (1, false), (2, false), (4, false), (5, false), (6, false), (3, true), (7, true), (8, false), (9, false)] (fun w' => True) (by kernel_rfl) (by kernel_rfl) rfl (by kernel_rfl) (by intro _ _ d _ _ h; cases d <;> exact h) (trivial) ?_; simp only [List.map_cons, List.map_nil, List.getElem?_toArray, List.getElem?_cons_zero, List.getElem?_cons_succ, Option.getD_some]
              repeat (first | (refine Lone.ro_q (by rfl) (v := ?_) ?_ ?_; rotate_left; (focus (intro w' hSw; (try dsimp only at hSw); go_simp; try with_reducible rfl)); simp only [Act.put, List.setIfInBounds_toArray, List.set_cons_zero, List.set_cons_succ]) | (refine Lone.ro_skip (by rfl) ?_; simp only [Act.put, List.setIfInBounds_toArray, List.set_cons_zero, List.set_cons_succ]))
              refine Lone.ro_q (by rfl) (v := vb1) (fun w' hSw => by simp only [execOp, Act.eval, List.getElem?_toArray, List.getElem?_cons_zero, List.getElem?_cons_succ, Array.getD_eq_getD_getElem?, Option.getD_some, Option.map_some, Option.map_none, Sem.run_bind, E1.out.2.2.1, Result.andThen, Sem.run_pure]) ?_; simp only [Act.put, List.setIfInBounds_toArray, List.set_cons_zero, List.set_cons_succ]
              repeat (first | (refine Lone.ro_q (by rfl) (v := ?_) ?_ ?_; rotate_left; (focus (intro w' hSw; (try dsimp only at hSw); go_simp; try with_reducible rfl)); simp only [Act.put, List.setIfInBounds_toArray, List.set_cons_zero, List.set_cons_succ]) | (refine Lone.ro_skip (by rfl) ?_; simp only [Act.put, List.setIfInBounds_toArray, List.set_cons_zero, List.set_cons_succ]))
              refine Lone.ro_q (by rfl) (v := vb2) (fun w' hSw => by simp only [execOp, Act.eval, List.getElem?_toArray, List.getElem?_cons_zero, List.getElem?_cons_succ, Array.getD_eq_getD_getElem?, Option.getD_some, Option.map_some, Option.map_none, Sem.run_bind, E1.out.2.2.2, Result.andThen, Sem.run_pure]) ?_; simp only [Act.put, List.setIfInBounds_toArray, List.set_cons_zero, List.set_cons_succ]
              repeat (first | (refine Lone.ro_q (by rfl) (v := ?_) ?_ ?_; rotate_left; (focus (intro w' hSw; (try dsimp only at hSw); go_simp; try with_reducible rfl)); simp only [Act.put, List.setIfInBounds_toArray, List.set_cons_zero, List.set_cons_succ]) | (refine Lone.ro_skip (by rfl) ?_; simp only [Act.put, List.setIfInBounds_toArray, List.set_cons_zero, List.set_cons_succ]))
              (refine Lone.ro_loud (by rfl) (fun K hK => ?_); go_simp)
              (with_reducible refine (HC1.out _ HB5.out.drew).mono ?_)
              rintro e w6 ⟨rfl, hb⟩
              rw [← HP.out.2.2.1]
              have HB6 := Lib.hid (HB5.out.drew.trans (hb.mono HB5.out.size))
              clear hb
              (refine hK.out _ _ (fun w' => True) (.inl fun _ h => h) (trivial) ?_; clear hK K; try simp only [Act.put, List.setIfInBounds_toArray, List.set_cons_zero, List.set_cons_succ])
              repeat (first | (refine Lone.ro_q (by rfl) (v := ?_) ?_ ?_; rotate_left; (focus (intro w' hSw; (try dsimp only at hSw); go_simp; try with_reducible rfl)); simp only [Act.put, List.setIfInBounds_toArray, List.set_cons_zero, List.set_cons_succ]) | (refine Lone.ro_skip (by rfl) ?_; simp only [Act.put, List.setIfInBounds_toArray, List.set_cons_zero, List.set_cons_succ]))
              (refine Lone.ro_loud (by rfl) (fun K hK => ?_); go_simp)
              (with_reducible refine (HC2.out _ HB6.out).mono ?_)
              rintro e w7 ⟨rfl, hb⟩
              rw [← HP.out.2.2.2]
              have HB7 := Lib.hid (HB6.out.trans (hb.mono HB6.out.size))
              clear hb
              (refine hK.out _ _ (fun w' => True) (.inl fun _ h => h) (trivial) ?_; clear hK K; try simp only [Act.put, List.setIfInBounds_toArray, List.set_cons_zero, List.set_cons_succ])
              repeat (first | (refine Lone.ro_q (by rfl) (v := ?_) ?_ ?_; rotate_left; (focus (intro w' hSw; (try dsimp only at hSw); go_simp; try with_reducible rfl)); simp only [Act.put, List.setIfInBounds_toArray, List.set_cons_zero, List.set_cons_succ]) | (refine Lone.ro_skip (by rfl) ?_; simp only [Act.put, List.setIfInBounds_toArray, List.set_cons_zero, List.set_cons_succ]))
              (refine Lone.ro_nil ?_; go_wp2_with fail)
              go_wp2_with fail
              go_ret2
              exact ⟨(by rw [HCR.out]; rfl), HB7.out⟩
        · obtain ⟨rx, hrx⟩ : ∃ r, r = rootF la := ⟨_, rfl⟩
          obtain ⟨ry, hry⟩ : ∃ r, r = rootF lb := ⟨_, rfl⟩
          have HX := Lib.hid (And.intro hrx hry)
          clear hrx hry
          have hc : clashF la lb = (⟨#[]⟩, ⟨#[]⟩) := clashF_bad (by rintro ⟨_, _, h⟩; exact hroot h)
          rw [hc]
          obtain ⟨ao, cap, rfl⟩ := rdS_form hr
          obtain ⟨ao2, cap2, rfl⟩ := rdS_form hq
          have hne : ((la.length : Int) == (lb.length : Int)) = true := by simp [hl]
          have hn0 : ((la.length : Int) == 0) = false := by have : (la.length : Int) ≠ 0 := by omega
                                                            simpa using this
          have hoo : (rx.toList == ry.toList) = false := beq_no (by rw [HX.out.1, HX.out.2]; exact hroot)
          rw [← hl]
          rw [← hl] at HRB
          clear hr hq hc hs hs2 ht hN ih hl h0 hroot hN130 hne
          go_enter Tryd.func9, Tryd.ntmps9
          go_wp2_with fail
          (with_reducible refine (HRA.out _ HBw.out).mono ?_)
          rintro e w1 ⟨rfl, hb⟩
          rw [← HX.out.1]
          have HB1 := Lib.hid (HBw.out.trans (hb.mono HBw.out.size))
          clear hb
          go_wp2_with fail
          (with_reducible refine (HRB.out _ HB1.out).mono ?_)
          rintro e w2 ⟨rfl, hb⟩
          rw [← HX.out.2]
          have HB2 := Lib.hid (HB1.out.trans (hb.mono HB1.out.size))
          clear hb
          go_wp2_with fail
          go_ret2
          exact ⟨rfl, HB2.out⟩
    · have hc : clashF la lb = (⟨#[]⟩, ⟨#[]⟩) := clashF_bad (by rintro ⟨h, _⟩; exact hl h)
      rw [hc]
      obtain ⟨ao, cap, rfl⟩ := rdS_form hr
      obtain ⟨ao2, cap2, rfl⟩ := rdS_form hq
      have hne : ((la.length : Int) == (lb.length : Int)) = false := by simp; omega
      clear hr hq hc hs hs2 ht hN ih hN130
      go_enter Tryd.func9, Tryd.ntmps9
      go_wp2_with fail
      go_ret2
      exact ⟨rfl, Below.refl _ _⟩
end Go.Proofs.YtjfahfecmhnmoaaDoor
