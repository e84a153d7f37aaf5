/- The walk of SumParts. -/
import Derived.Test.YtafgbmeibnhapaaDoorSumAbcWalk
import Derived.Test.YtafgbmeibnhapaaDoorSumEq
namespace Go.Proofs.YtafgbmeibnhapaaDoor
open Go.RowKit
set_option linter.unusedVariables false
set_option linter.unusedSimpArgs false

theorem addOk_start {a : ByteArray} (h : a.size ≤ 562949953421312) : addOk start a = true := by
  have h0 : goodB start = true := rfl
  have h1 : start.many = 0 := rfl
  unfold addOk
  rw [h0, h1]
  simp
  omega
theorem addF_many (s : St) (b : ByteArray) : (addF s b).many = s.many + b.size := rfl
theorem addOk_add {s : St} {a b : ByteArray} (h : addOk s a = true) (hb : (b.size : Int) ≤ 576460752303423488) (hm : s.many + a.size + b.size < 1152921504606846976) : addOk (addF s a) b = true := by
  have hg := good_add h
  unfold addOk
  rw [hg, addF_many]
  simp [hb, hm]
theorem add_ok (s : St) (b : ByteArray) (w : World) (hk : addOk s b = true) (hok : s.heads.ok) (ht : Tab w) :
    Calls Tryd.prog 7 #[stV s, .string b] w fun e w' => e = .returned (.tuple #[stV (addF s b), .int .i64 0]) ∧ Below w.heap.size w w' := by
  have h := add_any s b w hok ht
  rwa [hk] at h
theorem good_ok (s : St) (w : World) (hg : goodB s = true) :
    Calls Tryd.prog 11 #[stV s] w fun e w' => e = .returned (.bool true) ∧ Below w.heap.size w w' := by
  have h := good_any s w
  rwa [hg] at h

theorem stV_eq (s : St) : stV s = .agg (stCells s).toArray := rfl
theorem stCells_one (s : St) : (stCells s).toArray.all (·.oneCell') = true := by simp [stCells, Value.oneCell']
theorem info_state (s : St) : (Tryd.prog.info? 25).map (·.size) = some (stCells s).toArray.size := by kernel_rfl

set_option maxRecDepth 100000 in
set_option maxHeartbeats 1600000 in
theorem sumParts_walk (a : ByteArray) (ha : a.size ≤ 140737488351232) (b : ByteArray) (hb : b.size ≤ 140737488351232) (c : ByteArray) (hc : c.size ≤ 140737488351232) (w : World) (ht : Tab w) :
    Calls Tryd.prog 3 #[.string a, .string b, .string c] w fun e w' => e = .returned (.bool true) ∧ Below w.heap.size w w' := by
  obtain ⟨r1, hr1⟩ : ∃ r, r = addF start a := ⟨_, rfl⟩
  obtain ⟨r2, hr2⟩ : ∃ r, r = addF r1 b := ⟨_, rfl⟩
  obtain ⟨r3, hr3⟩ : ∃ r, r = addF r2 c := ⟨_, rfl⟩
  have s0 : start.many = 0 := rfl
  have hab : (a ++ b).size = a.size + b.size := ByteArray.size_append
  have habc : (a ++ b ++ c).size = a.size + b.size + c.size := by rw [ByteArray.size_append, hab]
  have k1 : addOk start a = true := addOk_start (by omega)
  have k2 : addOk r1 b = true := by rw [hr1]; exact addOk_add k1 (by omega) (by omega)
  have k3 : addOk r2 c = true := by rw [hr2]; exact addOk_add k2 (by omega) (by rw [hr1, addF_many]; omega)
  have k4 : addOk start (a ++ b ++ c) = true := addOk_start (by omega)
  have h3 : addF start (a ++ b ++ c) = r3 := by rw [hr3, hr2, hr1, addF_two, addF_two]; congr 1; exact bs_ext (by simp [toList_append])
  have o1 : r1.heads.ok := by rw [hr1]; exact addF_ok start_ok
  have o2 : r2.heads.ok := by rw [hr2]; exact addF_ok o1
  have o3 : r3.heads.ok := by rw [hr3]; exact addF_ok o2
  have g3 : goodB r3 = true := by rw [hr3]; exact good_add k3
  have hS : sumF (a ++ b ++ c) = endF r3 := by unfold sumF addR; rw [k4]; simp only [if_true]; rw [h3]
  have K1 := Lib.hid k1
  have K2 := Lib.hid k2
  have K3 := Lib.hid k3
  have K4 := Lib.hid k4
  have H3 := Lib.hid h3
  have G3 := Lib.hid g3
  have HS := Lib.hid hS
  have HR1 := Lib.hid hr1
  have HR2 := Lib.hid hr2
  have HR3 := Lib.hid hr3
  have HT := Lib.hid ht
  clear ht k1 k2 k3 k4 h3 hS g3 hr1 hr2 hr3 s0 hab habc
  go_enter Tryd.func3, Tryd.ntmps3
  go_wp2_with fail
  refine (begin_any _).mono ?_
  rintro e w1 ⟨rfl, hb1⟩
  have HT1 := Lib.hid (HT.out.below hb1)
  have HB1 := Lib.hid hb1
  clear hb1
  go_wp2_with fail
  refine (add_ok start a _ K1.out start_ok HT1.out).mono ?_
  rintro e w2 ⟨rfl, hb2⟩
  rw [← HR1.out]
  have HT2 := Lib.hid (HT1.out.below hb2)
  have HB2 := Lib.hid (HB1.out.trans (hb2.mono HB1.out.size))
  clear hb2 HT1 HB1
  simp only [stV_eq]
  go_wp2_with (first | (refine wpList_store_blk (by rfl) 25 (.tmp 7) (.tmp 19) rfl w2.heap.size (stCells r1).toArray rfl rfl (old := _) (heap_alloc_new _ _) (info_state r1) rfl (stCells_one r1) ?_; intro w2a hg2 hu2) | (refine wpList_load_blk (by rfl) 25 (.tmp 7) rfl w2.heap.size rfl (.agg (stCells r1).toArray) rfl hg2 Tryd.underlying25 rfl (info_state r1) ?_))
  have HB2a := Lib.hid (below_upd ((HB2.out.alloc HB2.out.size _)) hu2 HB2.out.size (by have := HB2.out.size; simp; omega))
  have HT2a := Lib.hid (HT.out.below HB2a.out)
  have hl2 : w.heap.size ≤ w2.heap.size := HB2.out.size
  clear hu2 HB2 HT2
  generalize w2.heap.size = g at *
  refine (add_ok r1 b _ K2.out o1 HT2a.out).mono ?_
  rintro e w3 ⟨rfl, hb3⟩
  rw [← HR2.out]
  have hg3 := blk_below hg2 hb3
  have HB3 := Lib.hid (HB2a.out.trans (hb3.mono HB2a.out.size))
  clear hb3 hg2 HB2a HT2a
  simp only [stV_eq]
  go_wp2_with (first | (refine wpList_store_blk (by rfl) 25 (.tmp 7) (.tmp 25) rfl g (stCells r2).toArray rfl rfl (old := _) hg3 (info_state r2) rfl (stCells_one r2) ?_; intro w4 hg4 hu4) | (refine wpList_load_blk (by rfl) 25 (.tmp 7) rfl g rfl (.agg (stCells r2).toArray) rfl hg4 Tryd.underlying25 rfl (info_state r2) ?_))
  have HB4 := Lib.hid (below_upd HB3.out hu4 hl2 HB3.out.size)
  clear hu4 hg3 HB3
  refine (add_ok r2 c _ K3.out o2 (HT.out.below HB4.out)).mono ?_
  rintro e w5 ⟨rfl, hb5⟩
  rw [← HR3.out]
  have hg5 := blk_below hg4 hb5
  have HB5 := Lib.hid (HB4.out.trans (hb5.mono HB4.out.size))
  clear hb5 hg4 HB4
  simp only [stV_eq]
  go_wp2_with (first | (refine wpList_store_blk (by rfl) 25 (.tmp 7) (.tmp 31) rfl g (stCells r3).toArray rfl rfl (old := _) hg5 (info_state r3) rfl (stCells_one r3) ?_; intro w6 hg6 hu6) | (refine wpList_load_blk (by rfl) 25 (.tmp 7) rfl g rfl (.agg (stCells r3).toArray) rfl hg6 Tryd.underlying25 rfl (info_state r3) ?_))
  have HB6 := Lib.hid (below_upd HB5.out hu6 hl2 HB5.out.size)
  clear hu6 hg5 HB5
  refine (end_any r3 _ G3.out o3 (HT.out.below HB6.out)).mono ?_
  rintro e w7 ⟨rfl, hb7⟩
  have hg7 := blk_below hg6 hb7
  have HB7 := Lib.hid (HB6.out.trans (hb7.mono HB6.out.size))
  clear hb7 hg6 HB6
  go_wp2_with fail
  refine (begin_any _).mono ?_
  rintro e w8 ⟨rfl, hb8⟩
  have hg8 := blk_below hg7 hb8
  have HB8 := Lib.hid (HB7.out.trans (hb8.mono HB7.out.size))
  clear hb8 hg7 HB7
  simp only [stV_eq]
  go_wp2_with fail
  refine (add_ok start (a ++ b ++ c) _ K4.out start_ok (HT.out.below HB8.out)).mono ?_
  rintro e w9 ⟨rfl, hb9⟩
  rw [H3.out]
  have hg9 := blk_below hg8 hb9
  have HB9 := Lib.hid (HB8.out.trans (hb9.mono HB8.out.size))
  clear hb9 hg8 HB8
  simp only [stV_eq]
  have hl9 : g < w9.heap.size := lt_of_block hg9
  have hq := fun w => run_eql_state r3 w
  have hqg : Tryd.prog.eqGuardType Tryd.prog.depth 25 = false := by kernel_rfl
  go_wp2_with (first | (refine wpList_store_blk (by rfl) 25 (.tmp 13) (.tmp 46) rfl w9.heap.size (stCells r3).toArray rfl rfl (old := _) (heap_alloc_new _ _) (info_state r3) rfl (stCells_one r3) ?_; intro w10 hg10 hu10; have hg10' := blk_upd (show _ = some (Obj.cells (stCells r3).toArray 25 (0, 0)) from (Below.heap_alloc _ _ _ hl9).trans hg9) hu10 (show ¬ g = w9.heap.size by omega)) | (refine wpList_load_blk (by rfl) 25 (.tmp 7) rfl g rfl (.agg (stCells r3).toArray) rfl hg10' Tryd.underlying25 rfl (info_state r3) ?_) | (refine wpList_load_blk (by rfl) 25 (.tmp 13) rfl w9.heap.size rfl (.agg (stCells r3).toArray) rfl hg10 Tryd.underlying25 rfl (info_state r3) ?_))
  have HB10 := Lib.hid (below_upd (HB9.out.alloc HB9.out.size _) hu10 (show w.heap.size ≤ w9.heap.size from HB9.out.size) (by have := HB9.out.size; simp; omega))
  clear hu10 hg9 HB9 hg10
  refine (sum_any _ _ (HT.out.below HB10.out)).mono ?_
  rintro e w11 ⟨rfl, hb11⟩
  have hg11 := blk_below hg10' hb11
  have HB11 := Lib.hid (HB10.out.trans (hb11.mono HB10.out.size))
  clear hb11 hg10' HB10
  rw [HS.out]
  have hsz : (endF r3).size = 32 := endF_size r3
  go_wp2_with (first | (refine wpList_load_blk (by rfl) 25 (.tmp 7) rfl g rfl (.agg (stCells r3).toArray) rfl hg11 Tryd.underlying25 rfl (info_state r3) ?_))
  refine (good_ok r3 _ G3.out).mono ?_
  rintro e w12 ⟨rfl, hb12⟩
  have HB12 := Lib.hid (HB11.out.trans (hb12.mono HB11.out.size))
  clear hb12
  go_wp2_with fail
  refine (abc_any _ (HT.out.below HB12.out)).mono ?_
  rintro e w13 ⟨rfl, hb13⟩
  have HB13 := Lib.hid (HB12.out.trans (hb13.mono HB12.out.size))
  clear hb13
  go_wp2_with fail
  go_ret
  exact ⟨rfl, HB13.out⟩
end Go.Proofs.YtafgbmeibnhapaaDoor
