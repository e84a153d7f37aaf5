/- The walk of the keep's heads. -/
import Derived.Test.YtinhjnbgblieeaaDoorHead2
namespace Go.Proofs.YtinhjnbgblieeaaDoor
open Go.RowKit
set_option linter.unusedVariables false
set_option linter.unusedSimpArgs false

theorem of_nil : ofF [] = ((0, rootF []), 0) := rfl
theorem good_nil : goodH 0 (rootF []) = 0 := goodH_of (by decide) (by decide) (root32 _)
theorem headB_nil : (headB 0 (rootF [])).size = 33 := by
  rw [← toList_length, headB, toList_mk, List.length_append, toList_length, root32, show enc (Int.toNat 0) = [0] from enc_small 0 (by decide)]; rfl
set_option maxRecDepth 100000 in
set_option maxHeartbeats 3200000 in
theorem heads_any (w : World) (ht : Tab w) : Calls Tryd.prog 19 #[] w fun e w' => e = .returned (.bool true) ∧ Below w.heap.size w w' := by
  have HT := Lib.hid ht
  have HB0 := Lib.hid (Below.refl w.heap.size w)
  have hof := of_any [] (.slice none 0 0) w (rdT_nil _) ht
  rw [of_nil] at hof
  have htx := fun wr => textHead_any 0 (rootF []) wr
  rw [textF_ok good_nil] at htx
  have HTX := Lib.hid htx
  obtain ⟨T, hTd⟩ : ∃ T, T = headB 0 (rootF []) := ⟨_, rfl⟩
  have hT : T.size = 33 := by rw [hTd]; exact headB_nil
  have hT1 : ((T.size : Int) == 33) = true := by rw [hT]; rfl
  rw [← hTd] at HTX
  clear ht htx hTd hT
  go_enter Tryd.func19, Tryd.ntmps19
  go_wp2_with fail
  (with_reducible refine hof.mono ?_)
  rintro e w1 ⟨rfl, hb⟩
  have HB1 := Lib.hid hb
  clear hb hof
  go_wp2_with fail
  (with_reducible refine (HTX.out _).mono ?_)
  rintro e w2 ⟨rfl, hb⟩
  have hba : Below w1.heap.size w1 (w1.alloc (.cells #[.int .i64 0, .string (rootF [])] 41)) := (Below.refl _ _).alloc (Nat.le_refl _) _
  have hgq := blk_below (heap_alloc_new w1 (.cells #[.int .i64 0, .string (rootF [])] 41)) hb
  obtain ⟨q, hq⟩ : ∃ q, q = w1.heap.size := ⟨_, rfl⟩
  rw [← hq] at hgq ⊢
  have HB2 := Lib.hid (HB1.out.trans ((hba.trans (hb.mono hba.size)).mono HB1.out.size))
  have HG2 := Lib.hid hgq
  have HBd := Lib.hid HB2.out.drew
  have HGd := Lib.hid (show w2.drew.heap[q]? = _ from hgq)
  have hem := empty_any w2.drew (HT.out.below HBd.out)
  have rr : ((rootF []).toList == (rootF []).toList) = true := beq_self_eq_true _
  clear hb hba hq hgq
  go_wp2_with fail
  refine Lone.wp_region_order [(0, false), (1, false), (2, false), (3, false), (4, false), (5, false), (6, false), (7, false), (8, true), (9, false), (10, false), (11, false), (12, false), (13, false), (14, false), (15, false), (16, false)] (fun w' => w'.cell? ⟨q, 0, none⟩ = some (.int .i64 0) ∧ w'.cell? ⟨q, 1, none⟩ = some (.string (rootF []))) (by kernel_rfl) (by kernel_rfl) rfl (by kernel_rfl) (by intro _ _ d _ _ h; cases d <;> exact h) ((let h := head_cells HGd.out; ⟨h.1, h.2.1⟩)) ?_; simp only [List.map_cons, List.map_nil, List.getElem?_toArray, List.getElem?_cons_zero, List.getElem?_cons_succ, Option.getD_some]
  repeat (first | (refine Lone.ro_q (by rfl) (v := ?_) ?_ ?_; rotate_left; (focus (intro w' hSw; (try dsimp only at hSw); go_simp; try with_reducible rfl)); simp only [Act.put, List.setIfInBounds_toArray, List.set_cons_zero, List.set_cons_succ]) | (refine Lone.ro_skip (by rfl) ?_; simp only [Act.put, List.setIfInBounds_toArray, List.set_cons_zero, List.set_cons_succ]))
  (refine Lone.ro_loud (by rfl) (fun K hK => ?_); go_simp)
  (with_reducible refine hem.mono ?_)
  rintro e w3 ⟨rfl, hb⟩
  have HB3 := Lib.hid (HBd.out.trans (hb.mono HBd.out.size))
  have HG3 := Lib.hid (blk_below HGd.out hb)
  clear hb hem
  (refine hK.out _ _ (fun w' => w'.cell? ⟨q, 0, none⟩ = some (.int .i64 0) ∧ w'.cell? ⟨q, 1, none⟩ = some (.string (rootF []))) (.inl fun _ h => h) ((let h := head_cells HG3.out; ⟨h.1, h.2.1⟩)) ?_; clear hK K; try simp only [Act.put, List.setIfInBounds_toArray, List.set_cons_zero, List.set_cons_succ])
  repeat (first | (refine Lone.ro_q (by rfl) (v := ?_) ?_ ?_; rotate_left; (focus (intro w' hSw; (try dsimp only at hSw); go_simp; try with_reducible rfl)); simp only [Act.put, List.setIfInBounds_toArray, List.set_cons_zero, List.set_cons_succ]) | (refine Lone.ro_skip (by rfl) ?_; simp only [Act.put, List.setIfInBounds_toArray, List.set_cons_zero, List.set_cons_succ]))
  (refine Lone.ro_nil ?_; go_wp2_with fail)
  go_ret
  exact ⟨rfl, HB3.out⟩
end Go.Proofs.YtinhjnbgblieeaaDoor
