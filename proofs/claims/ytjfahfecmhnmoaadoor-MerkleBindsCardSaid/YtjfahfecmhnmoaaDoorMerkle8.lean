/- The walk of told. -/
import Derived.Test.YtjfahfecmhnmoaaDoorMerkle5
namespace Go.Proofs.YtjfahfecmhnmoaaDoor
open Go.RowKit
set_option linter.unusedVariables false
set_option linter.unusedSimpArgs false

set_option maxRecDepth 100000 in
set_option maxHeartbeats 1600000 in
theorem half2_any (n : Nat) (w : World) (hn : n ≤ 2305843009213693951) :
    Calls Tryd.prog 25 #[.int .i64 (n : Int)] w fun e w' => e = .returned (.int .i64 ((halfF n : Nat) : Int)) ∧ w = w' := by
  obtain ⟨r, hr⟩ : ∃ r, r = halfF n := ⟨_, rfl⟩
  rw [← hr]
  have HR := Lib.hid (show halfG n 1 n = r from hr.symm)
  clear hr
  go_enter Tryd.func25, Tryd.ntmps25
  go_wp2_with fail
  go_loop [3] (fun i => ∃ (f k : Nat), i = .int .i64 (k : Int) ∧ 1 ≤ k ∧ k ≤ max 1 n ∧ n ≤ k * 2 ^ (f + 1) ∧ halfG f k n = r) (fun i => n - (intOf i).toNat)
  case atStart => exact ⟨n, 1, rfl, Nat.le_refl _, by omega, by have := Nat.lt_two_pow_self (n := n); rw [Nat.one_mul, Nat.pow_succ]; omega, HR.out⟩
  case round =>
    obtain ⟨f, k, rfl, hk1, hkn, hp, hg⟩ := hrel
    have HP := Lib.hid hp
    have HG := Lib.hid hg
    clear hp hg
    have hw1 : IntKind.i64.wrap (2 * (k : Int)) = 2 * (k : Int) := IntWalk.i64_in _ (by omega)
    have hw2 : IntKind.i64.wrap ((k : Int) * 2) = (k : Int) * 2 := IntWalk.i64_in _ (by omega)
    by_cases hlt : 2 * k < n
    · have hkb : decide (2 * (k : Int) < (n : Int)) = true := by simp; omega
      have hki : 2 * (k : Int) < (n : Int) := by omega
      go_wp2_with fail
      go_round
      case rel =>
        have hg := HG.out
        have hp := HP.out
        cases f with
        | zero => simp at hp; omega
        | succ f =>
          refine ⟨f, 2 * k, by congr 1; omega, by omega, by omega, ?_, ?_⟩
          · rw [Nat.pow_succ] at hp; rw [Nat.mul_comm 2 k, Nat.mul_assoc, Nat.mul_comm 2]; exact hp
          · rw [halfG, if_pos hlt] at hg; exact hg
      case measure => simp [intOf]; omega
    · have hkb : decide (2 * (k : Int) < (n : Int)) = false := by simp; omega
      have hki : (n : Int) ≤ 2 * (k : Int) := by omega
      have hx : k = r := by
        have hg := HG.out
        cases f with
        | zero => exact hg
        | succ f => rw [halfG, if_neg hlt] at hg; exact hg
      have HX := Lib.hid hx
      clear hx
      go_wp2_with fail
      go_ret
      exact ⟨(by rw [HX.out]; rfl), rfl⟩

theorem told_small (s : ByteArray) (l : List ByteArray) (i : Nat) (p : List ByteArray) : (toldF l i s p).1.size ≤ 32 := by
  rw [told_up s l.length l i p rfl]; exact upF_small _ (leaf32 s) _ _ _
set_option maxRecDepth 100000 in
set_option maxHeartbeats 1600000 in
theorem told_any (s : ByteArray) (hsz : s.size ≤ 140737488355328) : ∀ (N : Nat) (la : List ByteArray) (i : Nat) (ps : List ByteArray) (va vp : Value) (w : World), la.length ≤ N → N ≤ 130 → i < la.length → rdS w va la → smalls la → rdS w vp ps → smalls ps → Tab w →
    Calls Tryd.prog 16 #[va, .int .i64 (i : Int), .string s, vp] w fun e w' => e = .returned (.tuple #[.string (toldF la i s ps).1, .bool (toldF la i s ps).2]) ∧ Below w.heap.size w w' := by
  intro N
  induction N with
  | zero => intro la i ps va vp w h1 _ h2; omega
  | succ N ih =>
    intro la i ps va vp w hN hN130 hi hr hs hp hps ht
    by_cases h1 : la.length = 1
    · obtain ⟨y, rfl⟩ := List.length_eq_one_iff.1 h1
      rw [toldF_one _ _ _ (by simp)]
      simp only [List.getD_cons_zero]
      obtain ⟨b, off, cap, rfl, hcx, hbl⟩ := rdS_at hr 0 (by simp)
      obtain ⟨ao2, cap2, rfl⟩ := rdS_form hp
      simp only [List.getD_cons_zero, Nat.add_zero, List.length_singleton] at hcx hi ⊢
      have hi0 : i = 0 := by omega
      subst hi0
      have hy : y.size ≤ 140737488355328 := hs y (by simp)
      have HC := Lib.hid (And.intro hcx hbl)
      have hcd : w.drew.cell? ⟨b, off, none⟩ = some (.string y) := hcx
      have HT := Lib.hid ht
      have HBw := Lib.hid (Below.refl w.heap.size w).drew
      obtain ⟨cl, hcl⟩ : ∃ c, c = clashB (⟨#[0]⟩ ++ s) (⟨#[0]⟩ ++ y) := ⟨_, rfl⟩
      rw [← hcl]
      have HCL := Lib.hid hcl
      clear hr hp hs hps ht hN ih h1 hcx hbl hN130 hcl hi
      go_enter Tryd.func16, Tryd.ntmps16
      go_wp2_with fail
      refine Lone.wp_region_order [(0, false), (2, false), (3, false), (4, false), (5, false), (6, false), (7, false), (1, true), (8, true), (9, false), (10, false)] (fun w' => w'.cell? ⟨b, off, none⟩ = some (.string y)) (by kernel_rfl) (by kernel_rfl) rfl (by kernel_rfl) (by intro _ _ d _ _ h; cases d <;> exact h) (hcd) ?_; simp only [List.map_cons, List.map_nil, List.getElem?_toArray, List.getElem?_cons_zero, List.getElem?_cons_succ, Option.getD_some]
      repeat (first | (refine Lone.ro_q (by rfl) (v := ?_) ?_ ?_; rotate_left; (focus (intro w' hSw; (try dsimp only at hSw); go_simp; try with_reducible rfl)); simp only [Act.put, List.setIfInBounds_toArray, List.set_cons_zero, List.set_cons_succ]) | (refine Lone.ro_skip (by rfl) ?_; simp only [Act.put, List.setIfInBounds_toArray, List.set_cons_zero, List.set_cons_succ]))
      refine Lone.ro_q (by rfl) (v := .string (⟨#[0]⟩ ++ s)) (fun w' hSw => by go_simp <;> omega) ?_; simp only [Act.put, List.setIfInBounds_toArray, List.set_cons_zero, List.set_cons_succ]
      repeat (first | (refine Lone.ro_q (by rfl) (v := ?_) ?_ ?_; rotate_left; (focus (intro w' hSw; (try dsimp only at hSw); go_simp; try with_reducible rfl)); simp only [Act.put, List.setIfInBounds_toArray, List.set_cons_zero, List.set_cons_succ]) | (refine Lone.ro_skip (by rfl) ?_; simp only [Act.put, List.setIfInBounds_toArray, List.set_cons_zero, List.set_cons_succ]))
      refine Lone.ro_q (by rfl) (v := .string (⟨#[0]⟩ ++ y)) (fun w' hSw => by go_simp <;> omega) ?_; simp only [Act.put, List.setIfInBounds_toArray, List.set_cons_zero, List.set_cons_succ]
      repeat (first | (refine Lone.ro_q (by rfl) (v := ?_) ?_ ?_; rotate_left; (focus (intro w' hSw; (try dsimp only at hSw); go_simp; try with_reducible rfl)); simp only [Act.put, List.setIfInBounds_toArray, List.set_cons_zero, List.set_cons_succ]) | (refine Lone.ro_skip (by rfl) ?_; simp only [Act.put, List.setIfInBounds_toArray, List.set_cons_zero, List.set_cons_succ]))
      (refine Lone.ro_loud (by rfl) (fun K hK => ?_); go_simp)
      refine (leaf_any s _ hsz (HT.out.below HBw.out)).mono ?_
      rintro e w1 ⟨rfl, hb⟩
      have HB1 := Lib.hid (HBw.out.trans (hb.mono HBw.out.size))
      clear hb
      have hc1 : w1.cell? ⟨b, off, none⟩ = some (.string y) := by rw [← HC.out.1]; exact HB1.out.cell (p := ⟨b, off, none⟩) HC.out.2
      (refine hK.out _ _ (fun w' => w'.cell? ⟨b, off, none⟩ = some (.string y)) (.inl fun _ h => h) (hc1) ?_; clear hK K; try simp only [Act.put, List.setIfInBounds_toArray, List.set_cons_zero, List.set_cons_succ])
      repeat (first | (refine Lone.ro_q (by rfl) (v := ?_) ?_ ?_; rotate_left; (focus (intro w' hSw; (try dsimp only at hSw); go_simp; try with_reducible rfl)); simp only [Act.put, List.setIfInBounds_toArray, List.set_cons_zero, List.set_cons_succ]) | (refine Lone.ro_skip (by rfl) ?_; simp only [Act.put, List.setIfInBounds_toArray, List.set_cons_zero, List.set_cons_succ]))
      (refine Lone.ro_loud (by rfl) (fun K hK => ?_); go_simp)
      (with_reducible refine (clash_any _ _ _ (HT.out.below HB1.out)).mono ?_)
      rintro e w2 ⟨rfl, hb⟩
      rw [← HCL.out]
      have HB2 := Lib.hid (HB1.out.trans (hb.mono HB1.out.size))
      clear hb
      have hc2 : w2.cell? ⟨b, off, none⟩ = some (.string y) := by rw [← HC.out.1]; exact HB2.out.cell (p := ⟨b, off, none⟩) HC.out.2
      (refine hK.out _ _ (fun w' => w'.cell? ⟨b, off, none⟩ = some (.string y)) (.inl fun _ h => h) (hc2) ?_; clear hK K; try simp only [Act.put, List.setIfInBounds_toArray, List.set_cons_zero, List.set_cons_succ])
      repeat (first | (refine Lone.ro_q (by rfl) (v := ?_) ?_ ?_; rotate_left; (focus (intro w' hSw; (try dsimp only at hSw); go_simp; try with_reducible rfl)); simp only [Act.put, List.setIfInBounds_toArray, List.set_cons_zero, List.set_cons_succ]) | (refine Lone.ro_skip (by rfl) ?_; simp only [Act.put, List.setIfInBounds_toArray, List.set_cons_zero, List.set_cons_succ]))
      (refine Lone.ro_nil ?_; go_wp2_with fail)
      go_ret2
      exact ⟨rfl, HB2.out⟩
    · have h2 : 2 ≤ la.length := by omega
      rcases snoc_cases ps with rfl | ⟨q, x, rfl⟩
      · rw [toldF_nil _ _ h2]
        obtain ⟨ao, cap, rfl⟩ := rdS_form hr
        obtain ⟨ao2, cap2, rfl⟩ := rdS_form hp
        have hn1 : ((la.length : Int) == 1) = false := by simp; omega
        clear ht hN hr ih hs hp hps hi h2 hN130
        go_enter Tryd.func16, Tryd.ntmps16
        go_wp2_with fail
        go_ret2
        exact ⟨rfl, Below.refl _ _⟩
      · have hsp := halfF_spec h2
        obtain ⟨k, hk⟩ : ∃ k, k = halfF la.length := ⟨_, rfl⟩
        obtain ⟨m, hm⟩ : ∃ m, m = q.length := ⟨_, rfl⟩
        have hml : (q ++ [x]).length = m + 1 := by simp [hm]
        have hlen := rdS_len hp
        obtain ⟨vp1, e3, p1⟩ := rdS_to hp m (by omega)
        have hq : (q ++ [x]).take m = q := by rw [hm]; simp
        have hxm : (q ++ [x]).getD m ⟨#[]⟩ = x := by rw [hm]; simp
        rw [hq] at p1
        obtain ⟨b, off, cap, rfl, hcq, hbq⟩ := rdS_at hp m (by omega)
        rw [hxm] at hcq
        have hx : x.size ≤ 140737488355328 := hps x (by simp)
        have hsq : smalls q := fun y hy => hps y (by simp [hy])
        have HCQ := Lib.hid hcq
        have hc := HCQ.out
        rw [hml] at hp e3 hlen ⊢
        clear hq hxm hml hm
        rw [← hk] at hsp
        obtain ⟨va1, e1, r1⟩ := rdS_to hr k (by omega)
        obtain ⟨va2, e2, r2⟩ := rdS_from hr k (by omega)
        obtain ⟨ao, acap, rfl⟩ := rdS_form hr
        by_cases hik : i < halfF la.length
        · have hik' : i < k := by omega
          have hF := toldF_left s (l := la) (i := i) (p := q) (x := x) h2 hik
          rw [← hk] at hF
          have IHU := Lib.hid (fun w' (hb : Below w.heap.size w w') => ih (la.take k) i q va1 vp1 w' (by rw [List.length_take]; omega) (by omega) (by rw [List.length_take]; omega) (r1.below hb) (smalls_take hs k) (p1.below hb) hsq (ht.below hb))
          have hub := told_small s (la.take k) i q
          have hkc : (i : Int) < (k : Int) := by omega
          have hin : (i : Int) < (la.length : Int) := by omega
          obtain ⟨r, hr0⟩ : ∃ r, r = toldF la i s (q ++ [x]) := ⟨_, rfl⟩
          rw [← hr0] at hF ⊢
          have HF := Lib.hid hF
          have HT := Lib.hid ht
          obtain ⟨u, hu0⟩ : ∃ u, u = toldF (la.take k) i s q := ⟨_, rfl⟩
          rw [← hu0] at hub
          have HU := Lib.hid hu0
          have HR1 := Lib.hid (fun w' (hb : Below w.heap.size w w') => root_any N (la.take k) va1 w' (by rw [List.length_take]; omega) (by omega) (r1.below hb) (smalls_take hs k) (ht.below hb))
          have HR2 := Lib.hid (fun w' (hb : Below w.heap.size w w') => root_any N (la.drop k) va2 w' (by rw [List.length_drop]; omega) (by omega) (r2.below hb) (smalls_drop hs k) (ht.below hb))
          obtain ⟨g1, hg1⟩ : ∃ x, x = rootF (la.take k) := ⟨_, rfl⟩
          obtain ⟨g2, hg2⟩ : ∃ x, x = rootF (la.drop k) := ⟨_, rfl⟩
          have q1 : g1.size ≤ 32 := by rw [hg1, root32]; exact Nat.le_refl _
          have q2 : g2.size ≤ 32 := by rw [hg2, root32]; exact Nat.le_refl _
          have HG := Lib.hid (And.intro hg1 hg2)
          
          obtain ⟨n, hn⟩ : ∃ n, n = la.length := ⟨_, rfl⟩
          rw [← hn] at hsp e1 e2 hk hin h2 ⊢
          have hk1 := hsp.1
          have hk2 := hsp.2.1
          have hn131 : n ≤ 131 := by omega
          have hn1 : ((n : Int) == 1) = false := by simp; omega
          have HK := Lib.hid hk
          have E1 := Lib.hid (And.intro e1 e2)
          have E3 := Lib.hid e3
          have HBw := Lib.hid (Below.refl w.heap.size w)
          clear hF ht ih r1 r2 p1 e1 e2 e3 hk hr0 hu0 hsp h2 hs hsq hr hp hps hi hik hN hN130 hg1 hg2 hn hcq hbq h1
          go_enter Tryd.func16, Tryd.ntmps16
          go_wp2_with (first | (refine wpList_slice (by rfl) 22 (.tmp 37) none (some (.tmp 40)) rfl (v' := vp1) E3.out ?_))
          refine (half2_any n _ (by omega)).mono ?_
          rintro e w0 ⟨rfl, rfl⟩
          rw [← HK.out]
          go_wp2_with (first | (refine wpList_slice (by rfl) 22 (.tmp 49) none (some (.tmp 50)) rfl (v' := va1) E1.out.1 ?_))
          
          (with_reducible refine (IHU.out _ HBw.out).mono ?_)
          rintro e w1 ⟨rfl, hb⟩
          rw [← HU.out]
          have HB1 := Lib.hid hb
          clear hb
          obtain ⟨cl, hcl⟩ : ∃ c, c = clashB (⟨#[1]⟩ ++ u.1 ++ x) (⟨#[1]⟩ ++ g1 ++ g2) := ⟨_, rfl⟩
          have HCL := Lib.hid hcl
          clear hcl
          have HF2 := Lib.hid (show r = (nodeF u.1 x, u.2 || cl) by rw [HF.out, HCL.out, HG.out.1, HG.out.2, ← HU.out])
          clear HF
          obtain ⟨z, met⟩ := u
          dsimp only at hub
          cases met with
          | true =>
            go_wp2_with fail
            refine Lone.wp_region_order [(0, false), (1, false), (3, false), (2, true), (4, false), (5, false), (6, false), (7, false), (8, false), (9, false), (10, false), (11, false), (14, false), (15, false), (16, false), (12, true), (13, false), (17, true), (18, false), (19, true), (20, false), (21, false), (22, false)] (fun w' => True) (by kernel_rfl) (by kernel_rfl) rfl (by kernel_rfl) (by intro _ _ d _ _ h; cases d <;> exact h) (trivial) ?_; simp only [List.map_cons, List.map_nil, List.getElem?_toArray, List.getElem?_cons_zero, List.getElem?_cons_succ, Option.getD_some]
            repeat (first | (refine Lone.ro_q (by rfl) (v := ?_) ?_ ?_; rotate_left; (focus (intro w' hSw; (try dsimp only at hSw); go_simp; try with_reducible rfl)); simp only [Act.put, List.setIfInBounds_toArray, List.set_cons_zero, List.set_cons_succ]) | (refine Lone.ro_skip (by rfl) ?_; simp only [Act.put, List.setIfInBounds_toArray, List.set_cons_zero, List.set_cons_succ]))
            (refine Lone.ro_loud (by rfl) (fun K hK => ?_); go_simp)
            refine (node_any z x _ (by omega) (by omega) (HT.out.below HB1.out.drew)).mono ?_
            rintro e w2 ⟨rfl, hb⟩
            have HB2 := Lib.hid (HB1.out.drew.trans (hb.mono HB1.out.size))
            clear hb
            (refine hK.out _ _ (fun w' => True) (.inl fun _ h => h) (trivial) ?_; clear hK K; try simp only [Act.put, List.setIfInBounds_toArray, List.set_cons_zero, List.set_cons_succ])
            repeat (first | (refine Lone.ro_q (by rfl) (v := ?_) ?_ ?_; rotate_left; (focus (intro w' hSw; (try dsimp only at hSw); go_simp; try with_reducible rfl)); simp only [Act.put, List.setIfInBounds_toArray, List.set_cons_zero, List.set_cons_succ]) | (refine Lone.ro_skip (by rfl) ?_; simp only [Act.put, List.setIfInBounds_toArray, List.set_cons_zero, List.set_cons_succ]))
            (refine Lone.ro_skipL (by rfl) trivial ?_; simp only [Act.put, List.setIfInBounds_toArray, List.set_cons_zero, List.set_cons_succ])
            repeat (first | (refine Lone.ro_q (by rfl) (v := ?_) ?_ ?_; rotate_left; (focus (intro w' hSw; (try dsimp only at hSw); go_simp; try with_reducible rfl)); simp only [Act.put, List.setIfInBounds_toArray, List.set_cons_zero, List.set_cons_succ]) | (refine Lone.ro_skip (by rfl) ?_; simp only [Act.put, List.setIfInBounds_toArray, List.set_cons_zero, List.set_cons_succ]))
            (refine Lone.ro_skipL (by rfl) trivial ?_; simp only [Act.put, List.setIfInBounds_toArray, List.set_cons_zero, List.set_cons_succ])
            repeat (first | (refine Lone.ro_q (by rfl) (v := ?_) ?_ ?_; rotate_left; (focus (intro w' hSw; (try dsimp only at hSw); go_simp; try with_reducible rfl)); simp only [Act.put, List.setIfInBounds_toArray, List.set_cons_zero, List.set_cons_succ]) | (refine Lone.ro_skip (by rfl) ?_; simp only [Act.put, List.setIfInBounds_toArray, List.set_cons_zero, List.set_cons_succ]))
            (refine Lone.ro_skipL (by rfl) trivial ?_; simp only [Act.put, List.setIfInBounds_toArray, List.set_cons_zero, List.set_cons_succ])
            repeat (first | (refine Lone.ro_q (by rfl) (v := ?_) ?_ ?_; rotate_left; (focus (intro w' hSw; (try dsimp only at hSw); go_simp; try with_reducible rfl)); simp only [Act.put, List.setIfInBounds_toArray, List.set_cons_zero, List.set_cons_succ]) | (refine Lone.ro_skip (by rfl) ?_; simp only [Act.put, List.setIfInBounds_toArray, List.set_cons_zero, List.set_cons_succ]))
            (refine Lone.ro_nil ?_; go_wp2_with fail)
            go_ret2
            exact ⟨(by rw [HF2.out]; rfl), HB2.out⟩
          | false =>
            go_wp2_with fail
            refine Lone.wp_region_order [(0, false), (1, false), (3, false), (2, true), (4, false), (5, false), (6, false), (7, false), (8, false), (9, false), (10, false), (11, false), (14, false), (15, false), (16, false), (12, true), (13, false), (17, true), (18, false), (19, true), (20, false), (21, false), (22, false)] (fun w' => True) (by kernel_rfl) (by kernel_rfl) rfl (by kernel_rfl) (by intro _ _ d _ _ h; cases d <;> exact h) (trivial) ?_; simp only [List.map_cons, List.map_nil, List.getElem?_toArray, List.getElem?_cons_zero, List.getElem?_cons_succ, Option.getD_some]
            repeat (first | (refine Lone.ro_q (by rfl) (v := ?_) ?_ ?_; rotate_left; (focus (intro w' hSw; (try dsimp only at hSw); go_simp; try with_reducible rfl)); simp only [Act.put, List.setIfInBounds_toArray, List.set_cons_zero, List.set_cons_succ]) | (refine Lone.ro_skip (by rfl) ?_; simp only [Act.put, List.setIfInBounds_toArray, List.set_cons_zero, List.set_cons_succ]))
            (refine Lone.ro_loud (by rfl) (fun K hK => ?_); go_simp)
            refine (node_any z x _ (by omega) (by omega) (HT.out.below HB1.out.drew)).mono ?_
            rintro e w2 ⟨rfl, hb⟩
            have HB2 := Lib.hid (HB1.out.drew.trans (hb.mono HB1.out.size))
            clear hb
            (refine hK.out _ _ (fun w' => True) (.inl fun _ h => h) (trivial) ?_; clear hK K; try simp only [Act.put, List.setIfInBounds_toArray, List.set_cons_zero, List.set_cons_succ])
            repeat (first | (refine Lone.ro_q (by rfl) (v := ?_) ?_ ?_; rotate_left; (focus (intro w' hSw; (try dsimp only at hSw); go_simp; try with_reducible rfl)); simp only [Act.put, List.setIfInBounds_toArray, List.set_cons_zero, List.set_cons_succ]) | (refine Lone.ro_skip (by rfl) ?_; simp only [Act.put, List.setIfInBounds_toArray, List.set_cons_zero, List.set_cons_succ]))
            refine Lone.ro_q (by rfl) (v := .string (⟨#[1]⟩ ++ z)) (fun w' hSw => by go_simp <;> omega) ?_; simp only [Act.put, List.setIfInBounds_toArray, List.set_cons_zero, List.set_cons_succ]
            repeat (first | (refine Lone.ro_q (by rfl) (v := ?_) ?_ ?_; rotate_left; (focus (intro w' hSw; (try dsimp only at hSw); go_simp; try with_reducible rfl)); simp only [Act.put, List.setIfInBounds_toArray, List.set_cons_zero, List.set_cons_succ]) | (refine Lone.ro_skip (by rfl) ?_; simp only [Act.put, List.setIfInBounds_toArray, List.set_cons_zero, List.set_cons_succ]))
            refine Lone.ro_q (by rfl) (v := .string (⟨#[1]⟩ ++ z ++ x)) (fun w' hSw => by go_simp <;> omega) ?_; simp only [Act.put, List.setIfInBounds_toArray, List.set_cons_zero, List.set_cons_succ]
            repeat (first | (refine Lone.ro_q (by rfl) (v := ?_) ?_ ?_; rotate_left; (focus (intro w' hSw; (try dsimp only at hSw); go_simp; try with_reducible rfl)); simp only [Act.put, List.setIfInBounds_toArray, List.set_cons_zero, List.set_cons_succ]) | (refine Lone.ro_skip (by rfl) ?_; simp only [Act.put, List.setIfInBounds_toArray, List.set_cons_zero, List.set_cons_succ]))
            refine Lone.ro_q (by rfl) (v := va1) (fun w' hSw => by simp only [execOp, Act.eval, List.getElem?_toArray, List.getElem?_cons_zero, List.getElem?_cons_succ, Array.getD_eq_getD_getElem?, Option.getD_some, Option.map_some, Option.map_none, Sem.run_bind, E1.out.1, Result.andThen, Sem.run_pure]) ?_; simp only [Act.put, List.setIfInBounds_toArray, List.set_cons_zero, List.set_cons_succ]
            repeat (first | (refine Lone.ro_q (by rfl) (v := ?_) ?_ ?_; rotate_left; (focus (intro w' hSw; (try dsimp only at hSw); go_simp; try with_reducible rfl)); simp only [Act.put, List.setIfInBounds_toArray, List.set_cons_zero, List.set_cons_succ]) | (refine Lone.ro_skip (by rfl) ?_; simp only [Act.put, List.setIfInBounds_toArray, List.set_cons_zero, List.set_cons_succ]))
            refine Lone.ro_q (by rfl) (v := va2) (fun w' hSw => by simp only [execOp, Act.eval, List.getElem?_toArray, List.getElem?_cons_zero, List.getElem?_cons_succ, Array.getD_eq_getD_getElem?, Option.getD_some, Option.map_some, Option.map_none, Sem.run_bind, E1.out.2, Result.andThen, Sem.run_pure]) ?_; simp only [Act.put, List.setIfInBounds_toArray, List.set_cons_zero, List.set_cons_succ]
            repeat (first | (refine Lone.ro_q (by rfl) (v := ?_) ?_ ?_; rotate_left; (focus (intro w' hSw; (try dsimp only at hSw); go_simp; try with_reducible rfl)); simp only [Act.put, List.setIfInBounds_toArray, List.set_cons_zero, List.set_cons_succ]) | (refine Lone.ro_skip (by rfl) ?_; simp only [Act.put, List.setIfInBounds_toArray, List.set_cons_zero, List.set_cons_succ]))
            (refine Lone.ro_loud (by rfl) (fun K hK => ?_); go_simp)
            (with_reducible refine (HR1.out _ HB2.out).mono ?_)
            rintro e w3 ⟨rfl, hb⟩
            rw [← HG.out.1]
            have HB3 := Lib.hid (HB2.out.trans (hb.mono HB2.out.size))
            clear hb
            (refine hK.out _ _ (fun w' => True) (.inl fun _ h => h) (trivial) ?_; clear hK K; try simp only [Act.put, List.setIfInBounds_toArray, List.set_cons_zero, List.set_cons_succ])
            repeat (first | (refine Lone.ro_q (by rfl) (v := ?_) ?_ ?_; rotate_left; (focus (intro w' hSw; (try dsimp only at hSw); go_simp; try with_reducible rfl)); simp only [Act.put, List.setIfInBounds_toArray, List.set_cons_zero, List.set_cons_succ]) | (refine Lone.ro_skip (by rfl) ?_; simp only [Act.put, List.setIfInBounds_toArray, List.set_cons_zero, List.set_cons_succ]))
            refine Lone.ro_q (by rfl) (v := .string (⟨#[1]⟩ ++ g1)) (fun w' hSw => by go_simp <;> omega) ?_; simp only [Act.put, List.setIfInBounds_toArray, List.set_cons_zero, List.set_cons_succ]
            repeat (first | (refine Lone.ro_q (by rfl) (v := ?_) ?_ ?_; rotate_left; (focus (intro w' hSw; (try dsimp only at hSw); go_simp; try with_reducible rfl)); simp only [Act.put, List.setIfInBounds_toArray, List.set_cons_zero, List.set_cons_succ]) | (refine Lone.ro_skip (by rfl) ?_; simp only [Act.put, List.setIfInBounds_toArray, List.set_cons_zero, List.set_cons_succ]))
            (refine Lone.ro_loud (by rfl) (fun K hK => ?_); go_simp)
            (with_reducible refine (HR2.out _ HB3.out).mono ?_)
            rintro e w4 ⟨rfl, hb⟩
            rw [← HG.out.2]
            have HB4 := Lib.hid (HB3.out.trans (hb.mono HB3.out.size))
            clear hb
            (refine hK.out _ _ (fun w' => True) (.inl fun _ h => h) (trivial) ?_; clear hK K; try simp only [Act.put, List.setIfInBounds_toArray, List.set_cons_zero, List.set_cons_succ])
            repeat (first | (refine Lone.ro_q (by rfl) (v := ?_) ?_ ?_; rotate_left; (focus (intro w' hSw; (try dsimp only at hSw); go_simp; try with_reducible rfl)); simp only [Act.put, List.setIfInBounds_toArray, List.set_cons_zero, List.set_cons_succ]) | (refine Lone.ro_skip (by rfl) ?_; simp only [Act.put, List.setIfInBounds_toArray, List.set_cons_zero, List.set_cons_succ]))
            refine Lone.ro_q (by rfl) (v := .string (⟨#[1]⟩ ++ g1 ++ g2)) (fun w' hSw => by go_simp <;> omega) ?_; simp only [Act.put, List.setIfInBounds_toArray, List.set_cons_zero, List.set_cons_succ]
            repeat (first | (refine Lone.ro_q (by rfl) (v := ?_) ?_ ?_; rotate_left; (focus (intro w' hSw; (try dsimp only at hSw); go_simp; try with_reducible rfl)); simp only [Act.put, List.setIfInBounds_toArray, List.set_cons_zero, List.set_cons_succ]) | (refine Lone.ro_skip (by rfl) ?_; simp only [Act.put, List.setIfInBounds_toArray, List.set_cons_zero, List.set_cons_succ]))
            (refine Lone.ro_loud (by rfl) (fun K hK => ?_); go_simp)
            (with_reducible refine (clash_any _ _ _ (HT.out.below HB4.out)).mono ?_)
            rintro e w5 ⟨rfl, hb⟩
            rw [← HCL.out]
            have HB5 := Lib.hid (HB4.out.trans (hb.mono HB4.out.size))
            clear hb
            (refine hK.out _ _ (fun w' => True) (.inl fun _ h => h) (trivial) ?_; clear hK K; try simp only [Act.put, List.setIfInBounds_toArray, List.set_cons_zero, List.set_cons_succ])
            repeat (first | (refine Lone.ro_q (by rfl) (v := ?_) ?_ ?_; rotate_left; (focus (intro w' hSw; (try dsimp only at hSw); go_simp; try with_reducible rfl)); simp only [Act.put, List.setIfInBounds_toArray, List.set_cons_zero, List.set_cons_succ]) | (refine Lone.ro_skip (by rfl) ?_; simp only [Act.put, List.setIfInBounds_toArray, List.set_cons_zero, List.set_cons_succ]))
            (refine Lone.ro_nil ?_; go_wp2_with fail)
            go_ret2
            exact ⟨(by rw [HF2.out]; rfl), HB5.out⟩
        · have hik' : k ≤ i := by omega
          have hF := toldF_right s (l := la) (i := i) (p := q) (x := x) h2 hik
          rw [← hk] at hF
          have IHU := Lib.hid (fun w' (hb : Below w.heap.size w w') => ih (la.drop k) (i - k) q va2 vp1 w' (by rw [List.length_drop]; omega) (by omega) (by rw [List.length_drop]; omega) (r2.below hb) (smalls_drop hs k) (p1.below hb) hsq (ht.below hb))
          have hub := told_small s (la.drop k) (i - k) q
          have hkc : (k : Int) ≤ (i : Int) := by omega
          have hin : (i : Int) < (la.length : Int) := by omega
          obtain ⟨r, hr0⟩ : ∃ r, r = toldF la i s (q ++ [x]) := ⟨_, rfl⟩
          rw [← hr0] at hF ⊢
          have HF := Lib.hid hF
          have HT := Lib.hid ht
          obtain ⟨u, hu0⟩ : ∃ u, u = toldF (la.drop k) (i - k) s q := ⟨_, rfl⟩
          rw [← hu0] at hub
          have HU := Lib.hid hu0
          have HR1 := Lib.hid (fun w' (hb : Below w.heap.size w w') => root_any N (la.take k) va1 w' (by rw [List.length_take]; omega) (by omega) (r1.below hb) (smalls_take hs k) (ht.below hb))
          have HR2 := Lib.hid (fun w' (hb : Below w.heap.size w w') => root_any N (la.drop k) va2 w' (by rw [List.length_drop]; omega) (by omega) (r2.below hb) (smalls_drop hs k) (ht.below hb))
          obtain ⟨g1, hg1⟩ : ∃ x, x = rootF (la.take k) := ⟨_, rfl⟩
          obtain ⟨g2, hg2⟩ : ∃ x, x = rootF (la.drop k) := ⟨_, rfl⟩
          have q1 : g1.size ≤ 32 := by rw [hg1, root32]; exact Nat.le_refl _
          have q2 : g2.size ≤ 32 := by rw [hg2, root32]; exact Nat.le_refl _
          have HG := Lib.hid (And.intro hg1 hg2)
          have hs2 : (i : Int) - (k : Int) = ((i - k : Nat) : Int) := by omega
          have HS2 := Lib.hid hs2
          clear hs2
          obtain ⟨n, hn⟩ : ∃ n, n = la.length := ⟨_, rfl⟩
          rw [← hn] at hsp e1 e2 hk hin h2 ⊢
          have hk1 := hsp.1
          have hk2 := hsp.2.1
          have hn131 : n ≤ 131 := by omega
          have hn1 : ((n : Int) == 1) = false := by simp; omega
          have HK := Lib.hid hk
          have E1 := Lib.hid (And.intro e1 e2)
          have E3 := Lib.hid e3
          have HBw := Lib.hid (Below.refl w.heap.size w)
          clear hF ht ih r1 r2 p1 e1 e2 e3 hk hr0 hu0 hsp h2 hs hsq hr hp hps hi hik hN hN130 hg1 hg2 hn hcq hbq h1
          go_enter Tryd.func16, Tryd.ntmps16
          go_wp2_with (first | (refine wpList_slice (by rfl) 22 (.tmp 37) none (some (.tmp 40)) rfl (v' := vp1) E3.out ?_))
          refine (half2_any n _ (by omega)).mono ?_
          rintro e w0 ⟨rfl, rfl⟩
          rw [← HK.out]
          go_wp2_with (first | (refine wpList_slice (by rfl) 22 (.tmp 80) (some (.tmp 81)) none rfl (v' := va2) E1.out.2 ?_))
          rw [HS2.out]
          (with_reducible refine (IHU.out _ HBw.out).mono ?_)
          rintro e w1 ⟨rfl, hb⟩
          rw [← HU.out]
          have HB1 := Lib.hid hb
          clear hb
          obtain ⟨cl, hcl⟩ : ∃ c, c = clashB (⟨#[1]⟩ ++ x ++ u.1) (⟨#[1]⟩ ++ g1 ++ g2) := ⟨_, rfl⟩
          have HCL := Lib.hid hcl
          clear hcl
          have HF2 := Lib.hid (show r = (nodeF x u.1, u.2 || cl) by rw [HF.out, HCL.out, HG.out.1, HG.out.2, ← HU.out])
          clear HF
          obtain ⟨z, met⟩ := u
          dsimp only at hub
          cases met with
          | true =>
            go_wp2_with fail
            refine Lone.wp_region_order [(0, false), (1, false), (3, false), (2, true), (4, false), (5, false), (6, false), (7, false), (8, false), (9, false), (10, false), (11, false), (14, false), (15, false), (16, false), (12, true), (13, false), (17, true), (18, false), (19, true), (20, false), (21, false), (22, false)] (fun w' => True) (by kernel_rfl) (by kernel_rfl) rfl (by kernel_rfl) (by intro _ _ d _ _ h; cases d <;> exact h) (trivial) ?_; simp only [List.map_cons, List.map_nil, List.getElem?_toArray, List.getElem?_cons_zero, List.getElem?_cons_succ, Option.getD_some]
            repeat (first | (refine Lone.ro_q (by rfl) (v := ?_) ?_ ?_; rotate_left; (focus (intro w' hSw; (try dsimp only at hSw); go_simp; try with_reducible rfl)); simp only [Act.put, List.setIfInBounds_toArray, List.set_cons_zero, List.set_cons_succ]) | (refine Lone.ro_skip (by rfl) ?_; simp only [Act.put, List.setIfInBounds_toArray, List.set_cons_zero, List.set_cons_succ]))
            (refine Lone.ro_loud (by rfl) (fun K hK => ?_); go_simp)
            refine (node_any x z _ (by omega) (by omega) (HT.out.below HB1.out.drew)).mono ?_
            rintro e w2 ⟨rfl, hb⟩
            have HB2 := Lib.hid (HB1.out.drew.trans (hb.mono HB1.out.size))
            clear hb
            (refine hK.out _ _ (fun w' => True) (.inl fun _ h => h) (trivial) ?_; clear hK K; try simp only [Act.put, List.setIfInBounds_toArray, List.set_cons_zero, List.set_cons_succ])
            repeat (first | (refine Lone.ro_q (by rfl) (v := ?_) ?_ ?_; rotate_left; (focus (intro w' hSw; (try dsimp only at hSw); go_simp; try with_reducible rfl)); simp only [Act.put, List.setIfInBounds_toArray, List.set_cons_zero, List.set_cons_succ]) | (refine Lone.ro_skip (by rfl) ?_; simp only [Act.put, List.setIfInBounds_toArray, List.set_cons_zero, List.set_cons_succ]))
            (refine Lone.ro_skipL (by rfl) trivial ?_; simp only [Act.put, List.setIfInBounds_toArray, List.set_cons_zero, List.set_cons_succ])
            repeat (first | (refine Lone.ro_q (by rfl) (v := ?_) ?_ ?_; rotate_left; (focus (intro w' hSw; (try dsimp only at hSw); go_simp; try with_reducible rfl)); simp only [Act.put, List.setIfInBounds_toArray, List.set_cons_zero, List.set_cons_succ]) | (refine Lone.ro_skip (by rfl) ?_; simp only [Act.put, List.setIfInBounds_toArray, List.set_cons_zero, List.set_cons_succ]))
            (refine Lone.ro_skipL (by rfl) trivial ?_; simp only [Act.put, List.setIfInBounds_toArray, List.set_cons_zero, List.set_cons_succ])
            repeat (first | (refine Lone.ro_q (by rfl) (v := ?_) ?_ ?_; rotate_left; (focus (intro w' hSw; (try dsimp only at hSw); go_simp; try with_reducible rfl)); simp only [Act.put, List.setIfInBounds_toArray, List.set_cons_zero, List.set_cons_succ]) | (refine Lone.ro_skip (by rfl) ?_; simp only [Act.put, List.setIfInBounds_toArray, List.set_cons_zero, List.set_cons_succ]))
            (refine Lone.ro_skipL (by rfl) trivial ?_; simp only [Act.put, List.setIfInBounds_toArray, List.set_cons_zero, List.set_cons_succ])
            repeat (first | (refine Lone.ro_q (by rfl) (v := ?_) ?_ ?_; rotate_left; (focus (intro w' hSw; (try dsimp only at hSw); go_simp; try with_reducible rfl)); simp only [Act.put, List.setIfInBounds_toArray, List.set_cons_zero, List.set_cons_succ]) | (refine Lone.ro_skip (by rfl) ?_; simp only [Act.put, List.setIfInBounds_toArray, List.set_cons_zero, List.set_cons_succ]))
            (refine Lone.ro_nil ?_; go_wp2_with fail)
            go_ret2
            exact ⟨(by rw [HF2.out]; rfl), HB2.out⟩
          | false =>
            go_wp2_with fail
            refine Lone.wp_region_order [(0, false), (1, false), (3, false), (2, true), (4, false), (5, false), (6, false), (7, false), (8, false), (9, false), (10, false), (11, false), (14, false), (15, false), (16, false), (12, true), (13, false), (17, true), (18, false), (19, true), (20, false), (21, false), (22, false)] (fun w' => True) (by kernel_rfl) (by kernel_rfl) rfl (by kernel_rfl) (by intro _ _ d _ _ h; cases d <;> exact h) (trivial) ?_; simp only [List.map_cons, List.map_nil, List.getElem?_toArray, List.getElem?_cons_zero, List.getElem?_cons_succ, Option.getD_some]
            repeat (first | (refine Lone.ro_q (by rfl) (v := ?_) ?_ ?_; rotate_left; (focus (intro w' hSw; (try dsimp only at hSw); go_simp; try with_reducible rfl)); simp only [Act.put, List.setIfInBounds_toArray, List.set_cons_zero, List.set_cons_succ]) | (refine Lone.ro_skip (by rfl) ?_; simp only [Act.put, List.setIfInBounds_toArray, List.set_cons_zero, List.set_cons_succ]))
            (refine Lone.ro_loud (by rfl) (fun K hK => ?_); go_simp)
            refine (node_any x z _ (by omega) (by omega) (HT.out.below HB1.out.drew)).mono ?_
            rintro e w2 ⟨rfl, hb⟩
            have HB2 := Lib.hid (HB1.out.drew.trans (hb.mono HB1.out.size))
            clear hb
            (refine hK.out _ _ (fun w' => True) (.inl fun _ h => h) (trivial) ?_; clear hK K; try simp only [Act.put, List.setIfInBounds_toArray, List.set_cons_zero, List.set_cons_succ])
            repeat (first | (refine Lone.ro_q (by rfl) (v := ?_) ?_ ?_; rotate_left; (focus (intro w' hSw; (try dsimp only at hSw); go_simp; try with_reducible rfl)); simp only [Act.put, List.setIfInBounds_toArray, List.set_cons_zero, List.set_cons_succ]) | (refine Lone.ro_skip (by rfl) ?_; simp only [Act.put, List.setIfInBounds_toArray, List.set_cons_zero, List.set_cons_succ]))
            refine Lone.ro_q (by rfl) (v := .string (⟨#[1]⟩ ++ x)) (fun w' hSw => by go_simp <;> omega) ?_; simp only [Act.put, List.setIfInBounds_toArray, List.set_cons_zero, List.set_cons_succ]
            repeat (first | (refine Lone.ro_q (by rfl) (v := ?_) ?_ ?_; rotate_left; (focus (intro w' hSw; (try dsimp only at hSw); go_simp; try with_reducible rfl)); simp only [Act.put, List.setIfInBounds_toArray, List.set_cons_zero, List.set_cons_succ]) | (refine Lone.ro_skip (by rfl) ?_; simp only [Act.put, List.setIfInBounds_toArray, List.set_cons_zero, List.set_cons_succ]))
            refine Lone.ro_q (by rfl) (v := .string (⟨#[1]⟩ ++ x ++ z)) (fun w' hSw => by go_simp <;> omega) ?_; simp only [Act.put, List.setIfInBounds_toArray, List.set_cons_zero, List.set_cons_succ]
            repeat (first | (refine Lone.ro_q (by rfl) (v := ?_) ?_ ?_; rotate_left; (focus (intro w' hSw; (try dsimp only at hSw); go_simp; try with_reducible rfl)); simp only [Act.put, List.setIfInBounds_toArray, List.set_cons_zero, List.set_cons_succ]) | (refine Lone.ro_skip (by rfl) ?_; simp only [Act.put, List.setIfInBounds_toArray, List.set_cons_zero, List.set_cons_succ]))
            refine Lone.ro_q (by rfl) (v := va1) (fun w' hSw => by simp only [execOp, Act.eval, List.getElem?_toArray, List.getElem?_cons_zero, List.getElem?_cons_succ, Array.getD_eq_getD_getElem?, Option.getD_some, Option.map_some, Option.map_none, Sem.run_bind, E1.out.1, Result.andThen, Sem.run_pure]) ?_; simp only [Act.put, List.setIfInBounds_toArray, List.set_cons_zero, List.set_cons_succ]
            repeat (first | (refine Lone.ro_q (by rfl) (v := ?_) ?_ ?_; rotate_left; (focus (intro w' hSw; (try dsimp only at hSw); go_simp; try with_reducible rfl)); simp only [Act.put, List.setIfInBounds_toArray, List.set_cons_zero, List.set_cons_succ]) | (refine Lone.ro_skip (by rfl) ?_; simp only [Act.put, List.setIfInBounds_toArray, List.set_cons_zero, List.set_cons_succ]))
            refine Lone.ro_q (by rfl) (v := va2) (fun w' hSw => by simp only [execOp, Act.eval, List.getElem?_toArray, List.getElem?_cons_zero, List.getElem?_cons_succ, Array.getD_eq_getD_getElem?, Option.getD_some, Option.map_some, Option.map_none, Sem.run_bind, E1.out.2, Result.andThen, Sem.run_pure]) ?_; simp only [Act.put, List.setIfInBounds_toArray, List.set_cons_zero, List.set_cons_succ]
            repeat (first | (refine Lone.ro_q (by rfl) (v := ?_) ?_ ?_; rotate_left; (focus (intro w' hSw; (try dsimp only at hSw); go_simp; try with_reducible rfl)); simp only [Act.put, List.setIfInBounds_toArray, List.set_cons_zero, List.set_cons_succ]) | (refine Lone.ro_skip (by rfl) ?_; simp only [Act.put, List.setIfInBounds_toArray, List.set_cons_zero, List.set_cons_succ]))
            (refine Lone.ro_loud (by rfl) (fun K hK => ?_); go_simp)
            (with_reducible refine (HR1.out _ HB2.out).mono ?_)
            rintro e w3 ⟨rfl, hb⟩
            rw [← HG.out.1]
            have HB3 := Lib.hid (HB2.out.trans (hb.mono HB2.out.size))
            clear hb
            (refine hK.out _ _ (fun w' => True) (.inl fun _ h => h) (trivial) ?_; clear hK K; try simp only [Act.put, List.setIfInBounds_toArray, List.set_cons_zero, List.set_cons_succ])
            repeat (first | (refine Lone.ro_q (by rfl) (v := ?_) ?_ ?_; rotate_left; (focus (intro w' hSw; (try dsimp only at hSw); go_simp; try with_reducible rfl)); simp only [Act.put, List.setIfInBounds_toArray, List.set_cons_zero, List.set_cons_succ]) | (refine Lone.ro_skip (by rfl) ?_; simp only [Act.put, List.setIfInBounds_toArray, List.set_cons_zero, List.set_cons_succ]))
            refine Lone.ro_q (by rfl) (v := .string (⟨#[1]⟩ ++ g1)) (fun w' hSw => by go_simp <;> omega) ?_; simp only [Act.put, List.setIfInBounds_toArray, List.set_cons_zero, List.set_cons_succ]
            repeat (first | (refine Lone.ro_q (by rfl) (v := ?_) ?_ ?_; rotate_left; (focus (intro w' hSw; (try dsimp only at hSw); go_simp; try with_reducible rfl)); simp only [Act.put, List.setIfInBounds_toArray, List.set_cons_zero, List.set_cons_succ]) | (refine Lone.ro_skip (by rfl) ?_; simp only [Act.put, List.setIfInBounds_toArray, List.set_cons_zero, List.set_cons_succ]))
            (refine Lone.ro_loud (by rfl) (fun K hK => ?_); go_simp)
            (with_reducible refine (HR2.out _ HB3.out).mono ?_)
            rintro e w4 ⟨rfl, hb⟩
            rw [← HG.out.2]
            have HB4 := Lib.hid (HB3.out.trans (hb.mono HB3.out.size))
            clear hb
            (refine hK.out _ _ (fun w' => True) (.inl fun _ h => h) (trivial) ?_; clear hK K; try simp only [Act.put, List.setIfInBounds_toArray, List.set_cons_zero, List.set_cons_succ])
            repeat (first | (refine Lone.ro_q (by rfl) (v := ?_) ?_ ?_; rotate_left; (focus (intro w' hSw; (try dsimp only at hSw); go_simp; try with_reducible rfl)); simp only [Act.put, List.setIfInBounds_toArray, List.set_cons_zero, List.set_cons_succ]) | (refine Lone.ro_skip (by rfl) ?_; simp only [Act.put, List.setIfInBounds_toArray, List.set_cons_zero, List.set_cons_succ]))
            refine Lone.ro_q (by rfl) (v := .string (⟨#[1]⟩ ++ g1 ++ g2)) (fun w' hSw => by go_simp <;> omega) ?_; simp only [Act.put, List.setIfInBounds_toArray, List.set_cons_zero, List.set_cons_succ]
            repeat (first | (refine Lone.ro_q (by rfl) (v := ?_) ?_ ?_; rotate_left; (focus (intro w' hSw; (try dsimp only at hSw); go_simp; try with_reducible rfl)); simp only [Act.put, List.setIfInBounds_toArray, List.set_cons_zero, List.set_cons_succ]) | (refine Lone.ro_skip (by rfl) ?_; simp only [Act.put, List.setIfInBounds_toArray, List.set_cons_zero, List.set_cons_succ]))
            (refine Lone.ro_loud (by rfl) (fun K hK => ?_); go_simp)
            (with_reducible refine (clash_any _ _ _ (HT.out.below HB4.out)).mono ?_)
            rintro e w5 ⟨rfl, hb⟩
            rw [← HCL.out]
            have HB5 := Lib.hid (HB4.out.trans (hb.mono HB4.out.size))
            clear hb
            (refine hK.out _ _ (fun w' => True) (.inl fun _ h => h) (trivial) ?_; clear hK K; try simp only [Act.put, List.setIfInBounds_toArray, List.set_cons_zero, List.set_cons_succ])
            repeat (first | (refine Lone.ro_q (by rfl) (v := ?_) ?_ ?_; rotate_left; (focus (intro w' hSw; (try dsimp only at hSw); go_simp; try with_reducible rfl)); simp only [Act.put, List.setIfInBounds_toArray, List.set_cons_zero, List.set_cons_succ]) | (refine Lone.ro_skip (by rfl) ?_; simp only [Act.put, List.setIfInBounds_toArray, List.set_cons_zero, List.set_cons_succ]))
            (refine Lone.ro_nil ?_; go_wp2_with fail)
            go_ret2
            exact ⟨(by rw [HF2.out]; rfl), HB5.out⟩

end Go.Proofs.YtjfahfecmhnmoaaDoor
