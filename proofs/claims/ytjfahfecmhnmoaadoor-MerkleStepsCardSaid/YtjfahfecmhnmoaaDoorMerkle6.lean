/- The walks of sameStrings and of package merkle's Clash. -/
import Derived.Test.YtjfahfecmhnmoaaDoorMerkle5
namespace Go.Proofs.YtjfahfecmhnmoaaDoor
open Go.RowKit
set_option linter.unusedVariables false
set_option linter.unusedSimpArgs false

theorem rdS_all {w : World} {v : Value} {ss : List ByteArray} (hr : rdS w v ss) (h : 0 < ss.length) :
    ∃ b off cap, v = .slice (some ⟨b, off, none⟩) ss.length cap ∧ b < w.heap.size ∧ ∀ j, j < ss.length → w.cell? ⟨b, off + j, none⟩ = some (.string (ss.getD j ⟨#[]⟩)) := by
  obtain ⟨b, off, cap, rfl, _, hb⟩ := rdS_at hr 0 h
  refine ⟨b, off, cap, rfl, hb, fun j hj => ?_⟩
  obtain ⟨b', off', cap', hv, hc, _⟩ := rdS_at hr j hj
  simp only [Value.slice.injEq, Option.some.injEq, Addr.mk.injEq, and_true, true_and] at hv
  obtain ⟨⟨rfl, rfl⟩, rfl⟩ := hv
  exact hc
theorem eq_of_getD {ss tt : List ByteArray} (hl : ss.length = tt.length) (h : ∀ j, j < ss.length → ss.getD j ⟨#[]⟩ = tt.getD j ⟨#[]⟩) : ss = tt := by
  apply List.ext_getElem hl
  intro i h1 h2
  have := h i h1
  rwa [List.getD, List.getD, List.getElem?_eq_getElem h1, List.getElem?_eq_getElem h2] at this
theorem ne_of_getD {ss tt : List ByteArray} {j : Nat} (h : ss.getD j ⟨#[]⟩ ≠ tt.getD j ⟨#[]⟩) : ss ≠ tt := fun e => h (by rw [e])

set_option maxRecDepth 100000 in
set_option maxHeartbeats 1600000 in
theorem same_any (ss tt : List ByteArray) (v u : Value) (w : World) (hr : rdS w v ss) (hq : rdS w u tt) :
    Calls Tryd.prog 10 #[v, u] w fun e w' => e = .returned (.bool (decide (ss = tt))) ∧ Below w.heap.size w w' := by
  have hlen := rdS_len hr
  have hlen2 := rdS_len hq
  by_cases hl : ss.length = tt.length
  · by_cases h0 : ss.length = 0
    · have he : ss = tt := by rw [List.eq_nil_of_length_eq_zero h0, List.eq_nil_of_length_eq_zero (show tt.length = 0 by omega)]
      have hd : decide (ss = tt) = true := by simpa using he
      rw [hd]
      obtain ⟨ao, cap, rfl⟩ := rdS_form hr
      obtain ⟨ao2, cap2, rfl⟩ := rdS_form hq
      rw [← hl, h0]
      clear hr hq hlen hlen2 hl h0 he hd
      go_enter Tryd.func10, Tryd.ntmps10
      go_wp2_with fail
      refine wp_loop_rounds 1 ?_
      rw [rounds_succ]
      go_wp2_with fail
      go_ret
      exact ⟨rfl, Below.refl _ _⟩
    · obtain ⟨b, off, cap, rfl, hb, hc⟩ := rdS_all hr (by omega)
      obtain ⟨b2, off2, cap2, rfl, hb2, hc2⟩ := rdS_all hq (by omega)
      rw [← hl]
      obtain ⟨n, hn⟩ : ∃ n, n = ss.length := ⟨_, rfl⟩
      rw [← hn] at hlen hc ⊢
      rw [← hl, ← hn] at hc2
      obtain ⟨r, hr0⟩ : ∃ r, r = decide (ss = tt) := ⟨_, rfl⟩
      rw [← hr0]
      have HR := Lib.hid hr0
      have HC := Lib.hid hc
      have HC2 := Lib.hid hc2
      have HN := Lib.hid (show n = ss.length ∧ ss.length = tt.length from ⟨hn, hl⟩)
      clear hr hq hl hc hc2 hr0 hlen2 h0 hn
      go_enter Tryd.func10, Tryd.ntmps10
      go_wp2_with fail
      go_loopw [4, 5] (fun _ i wr => ∃ k : Nat, k ≤ n ∧ i = .int .i64 (k : Int) ∧ (∀ j, j < k → ss.getD j ⟨#[]⟩ = tt.getD j ⟨#[]⟩) ∧ Below w.heap.size w wr) (fun _ i _ => n - (intOf i).toNat)
      case atStart => exact ⟨0, by omega, rfl, fun j hj => by omega, Below.refl _ _⟩
      case round =>
        obtain ⟨k, hk, rfl, hall, hB⟩ := hrel
        have HALL := Lib.hid hall
        have HB := Lib.hid hB
        clear hall hB
        by_cases hlt : k < n
        · obtain ⟨x, hx⟩ : ∃ x, x = ss.getD k ⟨#[]⟩ := ⟨_, rfl⟩
          obtain ⟨y, hy⟩ : ∃ y, y = tt.getD k ⟨#[]⟩ := ⟨_, rfl⟩
          have hcx : wr.drew.cell? ⟨b, off + k, none⟩ = some (.string x) := by rw [hx, ← HC.out k hlt]; exact HB.out.cell (p := ⟨b, off + k, none⟩) hb
          have hcy : wr.drew.cell? ⟨b2, off2 + k, none⟩ = some (.string y) := by rw [hy, ← HC2.out k hlt]; exact HB.out.cell (p := ⟨b2, off2 + k, none⟩) hb2
          have HX := Lib.hid (show x = ss.getD k ⟨#[]⟩ ∧ y = tt.getD k ⟨#[]⟩ ∧ k < n from ⟨hx, hy, hlt⟩)
          have hkb : decide ((k : Int) < (n : Int)) = true := by simp; omega
          have hki : (k : Int) < (n : Int) := by omega
          have hk0 : (0 : Int) ≤ (k : Int) := by omega
          clear hx hy hlt
          by_cases hxy : x = y
          · subst hxy
            have hoo := beq_yes x
            go_wp2_with fail
            refine Lone.wp_region_order [(0, false), (1, false), (2, false), (3, false), (4, false), (5, false), (6, false), (7, false), (8, false)] (fun w' => w'.cell? ⟨b, off + k, none⟩ = some (.string x) ∧ w'.cell? ⟨b2, off2 + k, none⟩ = some (.string x)) (by kernel_rfl) (by kernel_rfl) rfl (by kernel_rfl) (by intro _ _ d _ _ h; cases d <;> exact h) (⟨hcx, hcy⟩) ?_; simp only [List.map_cons, List.map_nil, List.getElem?_toArray, List.getElem?_cons_zero, List.getElem?_cons_succ, Option.getD_some]
            repeat (first | (refine Lone.ro_q (by rfl) (v := ?_) ?_ ?_; rotate_left; (focus (intro w' hSw; (try dsimp only at hSw); go_simp; try with_reducible rfl)); simp only [Act.put, List.setIfInBounds_toArray, List.set_cons_zero, List.set_cons_succ]) | (refine Lone.ro_skip (by rfl) ?_; simp only [Act.put, List.setIfInBounds_toArray, List.set_cons_zero, List.set_cons_succ]))
            (refine Lone.ro_nil ?_; go_wp2_with fail)
            go_roundw
            case rel =>
              refine ⟨k + 1, by have := HX.out; omega, by first | rfl | go_num, fun j hj => ?_, HB.out.drew⟩
              by_cases hjk : j = k
              · rw [hjk, ← HX.out.1, ← HX.out.2.1]
              · exact HALL.out j (by omega)
            case measure =>
              have := HX.out
              simp [intOf]; omega
          · have hoo := beq_no hxy
            have hf : r = false := by
              rw [HR.out]; simp only [decide_eq_false_iff_not]
              exact ne_of_getD (j := k) (by rw [← HX.out.1, ← HX.out.2.1]; exact hxy)
            have HF := Lib.hid hf
            clear hf hxy
            go_wp2_with fail
            refine Lone.wp_region_order [(0, false), (1, false), (2, false), (3, false), (4, false), (5, false), (6, false), (7, false), (8, false)] (fun w' => w'.cell? ⟨b, off + k, none⟩ = some (.string x) ∧ w'.cell? ⟨b2, off2 + k, none⟩ = some (.string y)) (by kernel_rfl) (by kernel_rfl) rfl (by kernel_rfl) (by intro _ _ d _ _ h; cases d <;> exact h) (⟨hcx, hcy⟩) ?_; simp only [List.map_cons, List.map_nil, List.getElem?_toArray, List.getElem?_cons_zero, List.getElem?_cons_succ, Option.getD_some]
            repeat (first | (refine Lone.ro_q (by rfl) (v := ?_) ?_ ?_; rotate_left; (focus (intro w' hSw; (try dsimp only at hSw); go_simp; try with_reducible rfl)); simp only [Act.put, List.setIfInBounds_toArray, List.set_cons_zero, List.set_cons_succ]) | (refine Lone.ro_skip (by rfl) ?_; simp only [Act.put, List.setIfInBounds_toArray, List.set_cons_zero, List.set_cons_succ]))
            (refine Lone.ro_nil ?_; go_wp2_with fail)
            go_ret
            exact ⟨(by rw [HF.out]; rfl), HB.out.drew⟩
        · have hf : r = true := by
            rw [HR.out]; simp only [decide_eq_true_eq]
            have hn := HN.out
            exact eq_of_getD hn.2 (fun j hj => HALL.out j (by omega))
          have HF := Lib.hid hf
          have hkn : k = n := by omega
          subst hkn
          have hkb : decide ((k : Int) < (k : Int)) = false := by simp
          clear hf hlt hk
          go_wp2_with fail
          go_ret
          exact ⟨(by rw [HF.out]; rfl), HB.out⟩
  · have hd : decide (ss = tt) = false := by simp only [decide_eq_false_iff_not]; exact fun e => hl (by rw [e])
    rw [hd]
    obtain ⟨ao, cap, rfl⟩ := rdS_form hr
    obtain ⟨ao2, cap2, rfl⟩ := rdS_form hq
    have hne : ((ss.length : Int) == (tt.length : Int)) = false := by simp; omega
    clear hr hq hd hlen hlen2
    go_enter Tryd.func10, Tryd.ntmps10
    go_wp2_with fail
    go_ret
    exact ⟨rfl, Below.refl _ _⟩
end Go.Proofs.YtjfahfecmhnmoaaDoor
