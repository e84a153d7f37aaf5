/- The walk of SumStates. -/
import Derived.Test.YtafgbmeibnhapaaDoorSumParts
namespace Go.Proofs.YtafgbmeibnhapaaDoor
open Go.RowKit
set_option linter.unusedVariables false
set_option linter.unusedSimpArgs false

theorem addR_bad {s : St} {b : ByteArray} (h : addOk s b = false) : addR s b = noSt ∧ addE s b = 3 := by simp [addR, addE, h]
theorem addR_yes {s : St} {b : ByteArray} (h : addOk s b = true) : addR s b = addF s b ∧ addE s b = 0 := by simp [addR, addE, h]
theorem addOk_bad {s : St} (b : ByteArray) (h : goodB s = false) : addOk s b = false := by simp [addOk, h]
theorem addOk_left {s : St} {a b : ByteArray} (h : addOk s (a ++ b) = true) : addOk s a = true ∧ addOk (addF s a) b = true := by
  have hsz : (a ++ b).size = a.size + b.size := ByteArray.size_append
  have h' := h
  simp only [addOk, goodB, Bool.and_eq_true, decide_eq_true_eq, hsz] at h'
  obtain ⟨⟨h0, h1, h2⟩, h3, h4⟩ := h'
  have ha : addOk s a = true := by
    simp only [addOk, goodB, Bool.and_eq_true, decide_eq_true_eq]
    exact ⟨⟨h0, h1, h2⟩, by omega, by omega⟩
  exact ⟨ha, addOk_add ha (by omega) (by omega)⟩

set_option maxRecDepth 100000 in
set_option maxHeartbeats 1600000 in
theorem sumStates_walk (s : St) (hok : s.heads.ok) (a : ByteArray) (ha : a.size ≤ 140737488351232) (b : ByteArray) (hb : b.size ≤ 140737488351232) (w : World) (ht : Tab w) :
    Calls Tryd.prog 4 #[stV s, .string a, .string b] w fun e w' => e = .returned (.bool true) ∧ Below w.heap.size w w' := by
  obtain ⟨r1, hr1⟩ : ∃ r, r = addR s a := ⟨_, rfl⟩
  obtain ⟨r2, hr2⟩ : ∃ r, r = addR r1 b := ⟨_, rfl⟩
  obtain ⟨r3, hr3⟩ : ∃ r, r = addR s (a ++ b) := ⟨_, rfl⟩
  obtain ⟨e1, he1⟩ : ∃ r, r = addE s a := ⟨_, rfl⟩
  obtain ⟨e2, he2⟩ : ∃ r, r = addE r1 b := ⟨_, rfl⟩
  obtain ⟨e3, he3⟩ : ∃ r, r = addE s (a ++ b) := ⟨_, rfl⟩
  have o1 : r1.heads.ok := by rw [hr1]; exact addR_ok hok
  have o2 : r2.heads.ok := by rw [hr2]; exact addR_ok o1
  have o3 : r3.heads.ok := by rw [hr3]; exact addR_ok hok
  have HR := Lib.hid (show (r1 = addR s a ∧ r2 = addR r1 b ∧ r3 = addR s (a ++ b)) ∧ (e1 = addE s a ∧ e2 = addE r1 b ∧ e3 = addE s (a ++ b)) from ⟨⟨hr1, hr2, hr3⟩, he1, he2, he3⟩)
  have HT := Lib.hid ht
  clear ht hr1 hr2 hr3 he1 he2 he3
  rw [stV_eq]
  go_enter Tryd.func4, Tryd.ntmps4
  go_wp2_with (first | (refine wpList_load_blk (by rfl) 25 (.tmp 3) rfl w.heap.size rfl (.agg (stCells s).toArray) rfl (heap_alloc_new _ _) Tryd.underlying25 rfl (info_state s) ?_))
  have hB0 : Below w.heap.size w (w.alloc (.cells (stCells s).toArray 25)) := (Below.refl _ _).alloc (Nat.le_refl _) _
  refine (add_all s a _ hok (HT.out.below hB0)).mono ?_
  rintro e w1 ⟨rfl, hb1⟩
  rw [← HR.out.1.1, ← HR.out.2.1]
  have hx1 := blk_below (heap_alloc_new _ _) hb1
  have HB1 := Lib.hid (hB0.trans (hb1.mono hB0.size))
  clear hb1 hB0
  have hl1 : w.heap.size < w1.heap.size := lt_of_block hx1
  simp only [stV_eq]
  go_wp2_with (first | (refine wpList_store_blk (by rfl) 25 (.tmp 7) (.tmp 23) rfl w1.heap.size (stCells r1).toArray rfl rfl (old := _) (heap_alloc_new _ _) (info_state r1) rfl (stCells_one r1) ?_; intro w2 hy2 hu2) | (refine wpList_load_blk (by rfl) 25 (.tmp 7) rfl w1.heap.size rfl (.agg (stCells r1).toArray) rfl hy2 Tryd.underlying25 rfl (info_state r1) ?_))
  have hx2 := blk_upd ((Below.heap_alloc _ _ _ hl1).trans hx1) hu2 (show ¬ w.heap.size = w1.heap.size by omega)
  have HB2 := Lib.hid (below_upd (HB1.out.alloc (by omega) _) hu2 (show w.heap.size ≤ w1.heap.size by omega) (by simp; omega))
  clear hu2 hx1 HB1
  generalize w1.heap.size = g1 at *
  refine (add_all r1 b _ o1 (HT.out.below HB2.out)).mono ?_
  rintro e w3 ⟨rfl, hb3⟩
  rw [← HR.out.1.2.1, ← HR.out.2.2.1]
  have hx3 := blk_below hx2 hb3
  have hy3 := blk_below hy2 hb3
  have HB3 := Lib.hid (HB2.out.trans (hb3.mono HB2.out.size))
  clear hb3 hx2 hy2 HB2
  have hl3 : g1 < w3.heap.size := lt_of_block hy3
  simp only [stV_eq]
  go_wp2_with (first | (refine wpList_store_blk (by rfl) 25 (.tmp 9) (.tmp 29) rfl w3.heap.size (stCells r2).toArray rfl rfl (old := _) (heap_alloc_new _ _) (info_state r2) rfl (stCells_one r2) ?_; intro w4 hz4 hu4) | (refine wpList_load_blk (by rfl) 25 (.tmp 3) rfl w.heap.size rfl (.agg (stCells s).toArray) rfl (blk_upd ((Below.heap_alloc _ _ _ (Nat.lt_trans hl1 hl3)).trans hx3) hu4 (show ¬ w.heap.size = w3.heap.size by omega)) Tryd.underlying25 rfl (info_state s) ?_))
  have hx4 := blk_upd ((Below.heap_alloc _ _ _ (Nat.lt_trans hl1 hl3)).trans hx3) hu4 (show ¬ w.heap.size = w3.heap.size by omega)
  have HB4 := Lib.hid (below_upd (HB3.out.alloc (by omega) _) hu4 (show w.heap.size ≤ w3.heap.size by omega) (by simp; omega))
  clear hu4 hx3 HB3 hy3
  generalize w3.heap.size = g2 at *
  refine (add_all s (a ++ b) _ hok (HT.out.below HB4.out)).mono ?_
  rintro e w5 ⟨rfl, hb5⟩
  rw [← HR.out.1.2.2, ← HR.out.2.2.2]
  have hx5 := blk_below hx4 hb5
  have hz5 := blk_below hz4 hb5
  have HB5 := Lib.hid (HB4.out.trans (hb5.mono HB4.out.size))
  clear hb5 hx4 hz4 HB4
  have hl5 : g2 < w5.heap.size := lt_of_block hz5
  simp only [stV_eq]
  go_wp2_with (first | (refine wpList_store_blk (by rfl) 25 (.tmp 11) (.tmp 37) rfl w5.heap.size (stCells r3).toArray rfl rfl (old := _) (heap_alloc_new _ _) (info_state r3) rfl (stCells_one r3) ?_; intro w6 hv6 hu6) | (refine wpList_load_blk (by rfl) 25 (.tmp 3) rfl w.heap.size rfl (.agg (stCells s).toArray) rfl (blk_upd ((Below.heap_alloc _ _ _ (Nat.lt_trans (Nat.lt_trans hl1 hl3) hl5)).trans hx5) hu6 (show ¬ w.heap.size = w5.heap.size by omega)) Tryd.underlying25 rfl (info_state s) ?_))
  have hx6 := blk_upd ((Below.heap_alloc _ _ _ (Nat.lt_trans (Nat.lt_trans hl1 hl3) hl5)).trans hx5) hu6 (show ¬ w.heap.size = w5.heap.size by omega)
  have hz6 := blk_upd ((Below.heap_alloc _ _ _ hl5).trans hz5) hu6 (show ¬ g2 = w5.heap.size by omega)
  have HB6 := Lib.hid (below_upd (HB5.out.alloc (by omega) _) hu6 (show w.heap.size ≤ w5.heap.size by omega) (by simp; omega))
  clear hu6 hx5 HB5 hz5
  generalize w5.heap.size = g3 at *
  refine (good_any s _).mono ?_
  rintro e w7 ⟨rfl, hb7⟩
  have hx7 := blk_below hx6 hb7
  have hz7 := blk_below hz6 hb7
  have hv7 := blk_below hv6 hb7
  have HB7 := Lib.hid (HB6.out.trans (hb7.mono HB6.out.size))
  clear hb7 hx6 hz6 hv6 HB6
  by_cases hg : goodB s = true
  · by_cases hk : addOk s (a ++ b) = true
    · have hle := addOk_left hk
      have hab : addF r1 b = r3 := by rw [HR.out.1.1, HR.out.1.2.2, (addR_yes hle.1).1, (addR_yes hk).1, addF_two]
      have hr1 : r1 = addF s a := HR.out.1.1.trans (addR_yes hle.1).1
      have h23 : r2 = r3 := by rw [HR.out.1.2.1, ← hab, hr1, (addR_yes hle.2).1]
      have g3' : goodB r3 = true := by rw [HR.out.1.2.2]; exact addR_good _ _
      have G3 := Lib.hid g3'
      have z1 : e1 = 0 := HR.out.2.1.trans (addR_yes hle.1).2
      have z2 : e2 = 0 := by rw [HR.out.2.2.1, hr1]; exact (addR_yes hle.2).2
      have z3 : e3 = 0 := HR.out.2.2.2.trans (addR_yes hk).2
      clear hab hle hk HR hr1 g3'
      subst h23 z1 z2 z3
      rw [hg]
      clear hg
      have hq := fun w => run_eql_state r2 w
      have hqg : Tryd.prog.eqGuardType Tryd.prog.depth 25 = false := by kernel_rfl
      go_wp2_with (first | (refine wpList_load_blk (by rfl) 25 (.tmp 9) rfl g2 rfl (.agg (stCells r2).toArray) rfl hz7 Tryd.underlying25 rfl (info_state r2) ?_))
      refine (end_any r2 _ G3.out o2 (HT.out.below HB7.out)).mono ?_
      rintro e w8 ⟨rfl, hb8⟩
      have hz8 := blk_below hz7 hb8
      have hv8 := blk_below hv7 hb8
      have HB8 := Lib.hid (HB7.out.trans (hb8.mono HB7.out.size))
      clear hb8 hz7 hv7 HB7
      go_wp2_with (first | (refine wpList_load_blk (by rfl) 25 (.tmp 11) rfl g3 rfl (.agg (stCells r2).toArray) rfl hv8 Tryd.underlying25 rfl (info_state r2) ?_))
      refine (end_any r2 _ G3.out o2 (HT.out.below HB8.out)).mono ?_
      rintro e w9 ⟨rfl, hb9⟩
      have hz9 := blk_below hz8 hb9
      have hv9 := blk_below hv8 hb9
      have HB9 := Lib.hid (HB8.out.trans (hb9.mono HB8.out.size))
      clear hb9 hz8 hv8 HB8
      go_wp2_with (first | (refine wpList_load_blk (by rfl) 25 (.tmp 9) rfl g2 rfl (.agg (stCells r2).toArray) rfl hz9 Tryd.underlying25 rfl (info_state r2) ?_) | (refine wpList_load_blk (by rfl) 25 (.tmp 11) rfl g3 rfl (.agg (stCells r2).toArray) rfl hv9 Tryd.underlying25 rfl (info_state r2) ?_))
      refine (good_ok r2 _ G3.out).mono ?_
      rintro e w12 ⟨rfl, hb12⟩
      have HB12 := Lib.hid (HB9.out.trans (hb12.mono HB9.out.size))
      clear hb12
      go_wp2_with fail
      refine (abc_any _ (HT.out.below HB12.out)).mono ?_
      rintro e w13 ⟨rfl, hb13⟩
      have HB13 := Lib.hid (HB12.out.trans (hb13.mono HB12.out.size))
      clear hb13
      go_wp2_with fail
      go_ret
      exact ⟨rfl, HB13.out⟩
    · have hk' : addOk s (a ++ b) = false := by simpa using hk
      have z3 : e3 = 3 := HR.out.2.2.2.trans (addR_bad hk').2
      clear hk hk' HR
      subst z3
      rw [hg]
      clear hg
      go_wp2_with fail
      refine (abc_any _ (HT.out.below HB7.out)).mono ?_
      rintro e w13 ⟨rfl, hb13⟩
      have HB13 := Lib.hid (HB7.out.trans (hb13.mono HB7.out.size))
      clear hb13
      go_wp2_with fail
      go_ret
      exact ⟨rfl, HB13.out⟩
  · have hg' : goodB s = false := by simpa using hg
    have z1 : e1 = 3 := HR.out.2.1.trans (addR_bad (addOk_bad _ hg')).2
    have z3 : e3 = 3 := HR.out.2.2.2.trans (addR_bad (addOk_bad _ hg')).2
    have HG := Lib.hid hg'
    clear hg HR
    subst z1 z3
    rw [hg']
    clear hg'
    go_wp2_with (first | (refine wpList_load_blk (by rfl) 25 (.tmp 3) rfl w.heap.size rfl (.agg (stCells s).toArray) rfl hx7 Tryd.underlying25 rfl (info_state s) ?_))
    refine (end_bad s _ HG.out).mono ?_
    rintro e w8 ⟨rfl, hb8⟩
    have HB8 := Lib.hid (HB7.out.trans (hb8.mono HB7.out.size))
    clear hb8
    go_wp2_with fail
    refine (abc_any _ (HT.out.below HB8.out)).mono ?_
    rintro e w13 ⟨rfl, hb13⟩
    have HB13 := Lib.hid (HB8.out.trans (hb13.mono HB8.out.size))
    clear hb13
    go_wp2_with fail
    go_ret
    exact ⟨rfl, HB13.out⟩
end Go.Proofs.YtafgbmeibnhapaaDoor
