/- The walk of object.Links. -/
import Derived.Test.YtalkheljejkpiaaDoorStore3
namespace Go.Proofs.YtalkheljejkpiaaDoor
open Go.RowKit
set_option linter.unusedVariables false
set_option linter.unusedSimpArgs false

def linksF (o : ObjS) : List ByteArray := if o.kind = 2 then o.ents.map Ent.id else if o.kind = 3 then o.tree :: o.pars else if o.kind = 4 then [o.target] else []
theorem links_good {o : ObjS} (h : GoodO o) : (linksF o).length ≤ 64 ∧ ∀ x ∈ linksF o, x.size = 32 := by
  unfold linksF
  have h1 := h.ents
  have h2 := h.pars
  split
  · refine ⟨by rw [List.length_map]; exact h1, fun x hx => ?_⟩
    obtain ⟨e, he, rfl⟩ := List.mem_map.1 hx
    exact (h.ent e he).2
  · split
    · next k => exact ⟨by simp only [List.length_cons]; omega, fun x hx => (List.mem_cons.1 hx).elim (fun e => e ▸ h.tree k) (h.par x)⟩
    · split
      · next k => exact ⟨by simp, fun x hx => by rw [List.mem_singleton.1 hx]; exact h.target k⟩
      · exact ⟨Nat.zero_le _, fun x hx => by cases hx⟩
set_option maxRecDepth 100000 in
set_option maxHeartbeats 3200000 in
theorem links_any (o : ObjS) (ve vp : Value) (w : World) (he : rdE w ve o.ents) (hp : rdS w vp o.pars) (hle : o.ents.length ≤ 64 ∧ o.pars.length ≤ 4) :
    Calls Tryd.prog 28 #[.agg (objC o ve vp).toArray] w fun e w' => ∃ v, e = .returned v ∧ w'.ownsRow w.heap.size 9 1 v (linksF o).length (svs (linksF o)) ∧ Below w.heap.size w w' := by
  obtain ⟨q1, q2, rfl⟩ := rd_form he
  obtain ⟨p1, p2, rfl⟩ := rd_form hp
  obtain ⟨C, hC⟩ : ∃ C : Array Value, C = (objC o (.slice q1 o.ents.length q2) (.slice p1 o.pars.length p2)).toArray := ⟨_, rfl⟩
  obtain ⟨W, hW⟩ : ∃ W, w.alloc (.cells C 54) = W := ⟨_, rfl⟩
  have hbW : Below w.heap.size w W := by rw [← hW]; exact (Below.refl _ _).alloc (Nat.le_refl _) _
  have g0 : W.heap[w.heap.size]? = some (.cells (objC o (.slice q1 o.ents.length q2) (.slice p1 o.pars.length p2)).toArray 54 (0, 0)) := by rw [← hW, hC]; exact heap_alloc_new _ _
  have HG := Lib.hid (fun wr (h : Below W.heap.size W wr) => blk_below g0 h)
  have HE := Lib.hid (fun wr (h : Below W.heap.size W wr) => rdRow.below (rdRow.below he hbW) h)
  have HP := Lib.hid (fun wr (h : Below W.heap.size W wr) => (hp.below hbW).below h)
  have HLE := Lib.hid hle
  have HW0 := Lib.hid hbW
  have HBL := Lib.hid hbW.size
  have HB0 := Lib.hid (Below.refl W.heap.size W)
  obtain ⟨c0, c1, c2, c3, c4, c5, c6, c7, c8⟩ := ob_cells' g0
  rw [← hC]
  clear he hp hle hbW g0 hC
  by_cases k2 : o.kind = 2
  · have n1 : (o.kind == 2) = true := beq_iff_eq.2 k2
    have HF := Lib.hid (show linksF o = o.ents.map Ent.id by unfold linksF; rw [if_pos k2])
    clear k2
    go_enter Tryd.func28, Tryd.ntmps28
    go_wp2_with fail
    go_loopw [3, 13] (fun v i wr => ∃ k : Nat, k ≤ o.ents.length ∧ i = .int .i64 (k : Int) ∧ Hid (wr.ownsRow W.heap.size 9 1 v (o.ents.take k).length (svs ((o.ents.take k).map Ent.id))) ∧ Hid (Below W.heap.size W wr)) (fun _ i _ => o.ents.length - (intOf i).toNat)
    case atStart => exact ⟨0, Nat.zero_le _, rfl, Lib.hid (show W.ownsRow W.heap.size 9 1 (.slice none 0 0) 0 [] from World.ownsRow_nil _ _ _ _), HB0⟩
    case round =>
      clear HB0 hW c0 c1 c2 c3 c4 c5 c6 c7 c8
      obtain ⟨k, hk, rfl, HO, HB1⟩ := hrel
      by_cases hkl : k < o.ents.length
      · have HKL := Lib.hid hkl
        have kb : decide ((k : Int) < (o.ents.length : Int)) = true := decide_eq_true (by omega)
        have ki : (k : Int) < (o.ents.length : Int) := by omega
        have kz : (0 : Int) ≤ (k : Int) := by omega
        have kn : k < o.ents.length := hkl
        have hz : (o.ents.take k).length = k := by rw [List.length_take]; omega
        rw [hz] at HO
        obtain ⟨b, off, hb, _, hc⟩ := rdE_at (HE.out _ HB1.out) (by omega)
        subst hb
        obtain ⟨e0, e1, e2⟩ := hc k hkl
        obtain ⟨x, hx⟩ : ∃ x, x = o.ents.getD k zeroE := ⟨_, rfl⟩
        rw [← hx] at e0 e1 e2
        have HN2 := Lib.hid (show (o.ents.take (k + 1)).map Ent.id = (o.ents.take k).map Ent.id ++ [x.id] by rw [List.take_add_one, List.getElem?_eq_getElem hkl, List.map_append, hx, List.getD, List.getElem?_eq_getElem hkl]; rfl)
        have hby : (k + 1) * 16 ≤ 140737488355328 := by have := HLE.out; omega
        have hk4 : (k : Int) < 64 := by have := HLE.out; omega
        clear hc hx hkl
        skip
        go_wp2_with (first | (refine wpList_store_blk (by rfl) 98 (.tmp 5) (.tmp 16) rfl wr.heap.size #[.string x.name, .bool x.dir, .string x.id] rfl rfl (old := _) (heap_alloc_new _ _) (by kernel_rfl) rfl (by simp [Value.oneCell']) ?_; intro w2 gy uy; have hbz := below_upd ((Below.refl wr.heap.size wr).alloc (Nat.le_refl _) _) uy (Nat.le_refl _) (by simp); have HB2 := Lib.hid (HB1.out.trans (hbz.mono HB1.out.size)); have HO2 := Lib.hid (owns_below HO.out hbz); obtain ⟨f0, f1, f2⟩ := three_cells gy; clear gy uy hbz) | (at_builtin; refine wpList_append1 (w0 := W) (B := W.heap.size) (by rfl) _ _ 22 rfl info_string Tryd.underlying22 rfl (by decide) (by decide) HO2.out HB2.out (Nat.le_refl _) HB2.out.size (cs := #[.string x.id]) rfl (by simp [Value.oneCell']) hby rfl rfl ?_; intro v3 w3 ho3 hb3 _; have HO3 := Lib.hid ho3; have HB3 := Lib.hid hb3; clear ho3 hb3))
        exact ⟨⟨k + 1, kn, rfl, Lib.hid (by rw [HN2.out, svs, List.map_append, List.length_take, show min (k + 1) o.ents.length = k + 1 by omega]; exact HO3.out), HB3⟩, meas_step (n := o.ents.length) _ rfl HKL.out⟩
      · have kb : decide ((k : Int) < (o.ents.length : Int)) = false := decide_eq_false (by omega)
        have kb2 : decide (k < o.ents.length) = false := decide_eq_false hkl
        have HO2 := HO.out
        rw [List.take_of_length_le (by omega)] at HO2
        have HO3 := Lib.hid HO2
        clear hkl HO2 HO
        go_wp2_with fail
        go_ret
        refine ⟨_, rfl, ?_, HW0.out.trans (HB1.out.mono HW0.out.size)⟩
        rw [HF.out, List.length_map]; exact owns_base HO3.out HW0.out.size
  · have n1 : (o.kind == 2) = false := beq_eq_false_iff_ne.2 k2
    by_cases k3 : o.kind = 3
    · have n2 : (o.kind == 3) = true := beq_iff_eq.2 k3
      have HF := Lib.hid (show linksF o = o.tree :: o.pars by unfold linksF; rw [if_neg k2, if_pos k3])
      clear k2 k3
      go_enter Tryd.func28, Tryd.ntmps28
      go_wp2_with fail
      have HBd := Lib.hid (below_drew HB0.out)
      clear c0 c1 c2 c3 c4 c5 c6 c7 c8
      obtain ⟨c0, c1, c2, c3, c4, c5, c6, c7, c8⟩ := ob_cells' (HG.out _ HBd.out)
      try rw [hW]
      clear hW
      refine Lone.wp_region_order [(0, false), (1, false), (2, false), (5, false), (6, false), (3, true), (4, true), (7, true), (8, false)] (fun w' => w'.cell? ⟨w.heap.size, 3, none⟩ = some (.string o.tree) ∧ w'.cell? ⟨w.heap.size, 4, none⟩ = some (.slice p1 o.pars.length p2)) (by kernel_rfl) (by kernel_rfl) rfl (by kernel_rfl) (by intro _ _ d _ _ h; cases d <;> exact h) (⟨c3, c4⟩) ?_; simp only [List.map_cons, List.map_nil, List.getElem?_toArray, List.getElem?_cons_zero, List.getElem?_cons_succ, Option.getD_some]
      repeat (first | (refine Lone.ro_q (by rfl) (v := ?_) ?_ ?_; rotate_left; (focus (intro w' hSw; (try dsimp only at hSw); go_simp; try with_reducible rfl)); simp only [Act.put, List.setIfInBounds_toArray, List.set_cons_zero, List.set_cons_succ]) | (refine Lone.ro_skip (by rfl) ?_; simp only [Act.put, List.setIfInBounds_toArray, List.set_cons_zero, List.set_cons_succ]))
      (refine Lone.ro_loud (by rfl) (fun K hK => ?_); go_simp)
      have HB1 := Lib.hid (HBd.out.alloc HBd.out.size (.cells #[.string o.tree] 9))
      clear c0 c1 c2 c3 c4 c5 c6 c7 c8
      obtain ⟨c0, c1, c2, c3, c4, c5, c6, c7, c8⟩ := ob_cells' (HG.out _ HB1.out)
      (refine hK.out _ _ (fun w' => w'.cell? ⟨w.heap.size, 3, none⟩ = some (.string o.tree) ∧ w'.cell? ⟨w.heap.size, 4, none⟩ = some (.slice p1 o.pars.length p2)) (.inl fun _ h => h) (⟨c3, c4⟩) ?_; clear hK K; try simp only [Act.put, List.setIfInBounds_toArray, List.set_cons_zero, List.set_cons_succ])
      try repeat (first | (refine Lone.ro_q (by rfl) (v := ?_) ?_ ?_; rotate_left; (focus (intro w' hSw; (try dsimp only at hSw); go_simp; try with_reducible rfl)); simp only [Act.put, List.setIfInBounds_toArray, List.set_cons_zero, List.set_cons_succ]) | (refine Lone.ro_skip (by rfl) ?_; simp only [Act.put, List.setIfInBounds_toArray, List.set_cons_zero, List.set_cons_succ]))
      (refine Lone.ro_loud (by rfl) (fun K hK => ?_))
      refine wp_append1 (w0 := W) (B := W.heap.size) (.tmp 25) (.tmp 28) 22 rfl info_string Tryd.underlying22 rfl (by decide) (World.ownsRow_nil _ W.heap.size _ _) HBd.out (Nat.le_refl _) HBd.out.size (u := .string o.tree) rfl (by decide) rfl rfl ?_
      intro v2 w2 ho2 hb2
      have HO2 := Lib.hid ho2
      have HB2 := Lib.hid hb2
      clear ho2 hb2 c0 c1 c2 c3 c4 c5 c6 c7 c8
      obtain ⟨c0, c1, c2, c3, c4, c5, c6, c7, c8⟩ := ob_cells' (HG.out _ HB2.out)
      (refine hK.out _ _ (fun w' => w'.cell? ⟨w.heap.size, 3, none⟩ = some (.string o.tree) ∧ w'.cell? ⟨w.heap.size, 4, none⟩ = some (.slice p1 o.pars.length p2)) (.inl fun _ h => h) (⟨c3, c4⟩) ?_; clear hK K; try simp only [Act.put, List.setIfInBounds_toArray, List.set_cons_zero, List.set_cons_succ])
      try repeat (first | (refine Lone.ro_q (by rfl) (v := ?_) ?_ ?_; rotate_left; (focus (intro w' hSw; (try dsimp only at hSw); go_simp; try with_reducible rfl)); simp only [Act.put, List.setIfInBounds_toArray, List.set_cons_zero, List.set_cons_succ]) | (refine Lone.ro_skip (by rfl) ?_; simp only [Act.put, List.setIfInBounds_toArray, List.set_cons_zero, List.set_cons_succ]))
      (refine Lone.ro_loud (by rfl) (fun K hK => ?_))
      refine wp_append_rd (w0 := W) (B := W.heap.size) (.tmp 29) (.tmp 31) 22 rfl info_string Tryd.underlying22 rfl (by decide) (by decide) HO2.out HB2.out (Nat.le_refl _) HB2.out.size (HP.out _ HB2.out) svs_one5 (by have := HLE.out; omega) rfl rfl ?_
      intro v3 w3 ho3 hb3
      have HO3 := Lib.hid ho3
      have HB3 := Lib.hid hb3
      clear ho3 hb3 c0 c1 c2 c3 c4 c5 c6 c7 c8
      obtain ⟨c0, c1, c2, c3, c4, c5, c6, c7, c8⟩ := ob_cells' (HG.out _ HB3.out)
      (refine hK.out _ _ (fun w' => w'.cell? ⟨w.heap.size, 3, none⟩ = some (.string o.tree) ∧ w'.cell? ⟨w.heap.size, 4, none⟩ = some (.slice p1 o.pars.length p2)) (.inl fun _ h => h) (⟨c3, c4⟩) ?_; clear hK K; try simp only [Act.put, List.setIfInBounds_toArray, List.set_cons_zero, List.set_cons_succ])
      repeat (first | (refine Lone.ro_q (by rfl) (v := ?_) ?_ ?_; rotate_left; (focus (intro w' hSw; (try dsimp only at hSw); go_simp; try with_reducible rfl)); simp only [Act.put, List.setIfInBounds_toArray, List.set_cons_zero, List.set_cons_succ]) | (refine Lone.ro_skip (by rfl) ?_; simp only [Act.put, List.setIfInBounds_toArray, List.set_cons_zero, List.set_cons_succ]))
      refine Lone.ro_nil ?_
      go_wp2_with fail
      go_ret
      refine ⟨_, rfl, ?_, HW0.out.trans (HB3.out.mono HW0.out.size)⟩
      rw [HF.out]
      have h := owns_base HO3.out HW0.out.size
      rw [List.length_cons, Nat.add_comm]
      exact h
    · have n2 : (o.kind == 3) = false := beq_eq_false_iff_ne.2 k3
      by_cases k4 : o.kind = 4
      · have n3 : (o.kind == 4) = true := beq_iff_eq.2 k4
        have HF := Lib.hid (show linksF o = [o.target] by unfold linksF; rw [if_neg k2, if_neg k3, if_pos k4])
        clear k2 k3 k4
        go_enter Tryd.func28, Tryd.ntmps28
        go_wp2_with (first | (at_builtin; refine wpList_append1 (w0 := W) (B := W.heap.size) (by rfl) _ _ 22 rfl info_string Tryd.underlying22 rfl (by decide) (by decide) (World.ownsRow_nil _ W.heap.size _ _) HB0.out (Nat.le_refl _) HB0.out.size (cs := #[.string o.target]) rfl (by simp [Value.oneCell']) (by decide) rfl rfl ?_; intro v3 w3 ho3 hb3 _; have HO3 := Lib.hid ho3; have HB3 := Lib.hid hb3; clear ho3 hb3))
        go_ret
        refine ⟨_, rfl, ?_, HW0.out.trans (HB3.out.mono HW0.out.size)⟩
        rw [HF.out]
        exact owns_base HO3.out HW0.out.size
      · have n3 : (o.kind == 4) = false := beq_eq_false_iff_ne.2 k4
        have HF := Lib.hid (show linksF o = [] by unfold linksF; rw [if_neg k2, if_neg k3, if_neg k4])
        clear k2 k3 k4
        go_enter Tryd.func28, Tryd.ntmps28
        go_wp2_with fail
        go_ret
        refine ⟨_, rfl, ?_, HW0.out.trans (HB0.out.mono HW0.out.size)⟩
        rw [HF.out]
        exact World.ownsRow_nil _ _ _ _
end Go.Proofs.YtalkheljejkpiaaDoor
