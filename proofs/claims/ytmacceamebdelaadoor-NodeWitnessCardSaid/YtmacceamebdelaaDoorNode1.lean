/- The walks of package node's NewWitness and follows. -/
import Derived.Test.YtmacceamebdelaaDoorNodeLaw
import Derived.Test.YtmacceamebdelaaDoorHdA
import Derived.Test.YtmacceamebdelaaDoorRegion4
import Derived.Test.YtmacceamebdelaaDoorDkB
import Derived.Test.YtmacceamebdelaaDoorHdB
import Derived.Test.YtmacceamebdelaaDoorSeg
namespace Go.Proofs.YtmacceamebdelaaDoor
open Go.RowKit
set_option linter.unusedVariables false
set_option linter.unusedSimpArgs false

theorem six_cells {w : World} {n : Nat} {a b c d e f : Value} {t : TypeId} {fr : Nat × Nat} (h : w.heap[n]? = some (.cells #[a, b, c, d, e, f] t fr)) :
    w.cell? ⟨n, 0, none⟩ = some a ∧ w.cell? ⟨n, 1, none⟩ = some b ∧ w.cell? ⟨n, 2, none⟩ = some c ∧ w.cell? ⟨n, 3, none⟩ = some d ∧ w.cell? ⟨n, 4, none⟩ = some e ∧ w.cell? ⟨n, 5, none⟩ = some f := by
  refine ⟨?_, ?_, ?_, ?_, ?_, ?_⟩ <;> simp [World.cell?, h]
set_option maxRecDepth 100000 in
set_option maxHeartbeats 3200000 in
theorem newWit_any (who : Int) (key : ByteArray) (w : World) (h0 : 0 ≤ who) (h4 : who < 4) (ht : Tab w) :
    Calls Tryd.prog 5 #[.int .i64 who, .string key] w fun e w' => e = .returned (.tuple #[.agg #[.int .i64 who, .string key, .slice none 0 0, .int .i64 (-1), .int .i64 0, .string (rootF [])], .int .i64 0]) ∧ Below w.heap.size w w' := by
  obtain ⟨W, hW⟩ : ∃ W, w.alloc (.cells #[.int .i64 0, .string ⟨#[]⟩, .slice none 0 0, .int .i64 0, .int .i64 0, .string ⟨#[]⟩] 30) = W := ⟨_, rfl⟩
  have hb1 : Below w.heap.size w W := by rw [← hW]; exact (Below.refl _ _).alloc (Nat.le_refl _) _
  have g0 : W.heap[w.heap.size]? = some (.cells #[.int .i64 0, .string ⟨#[]⟩, .slice none 0 0, .int .i64 0, .int .i64 0, .string ⟨#[]⟩] 30 (0, 0)) := by rw [← hW]; exact heap_alloc_new _ _
  have HG0 := Lib.hid (fun wr (h : Below W.heap.size W wr) => blk_below g0 h)
  have HW0 := Lib.hid hb1
  have HB0 := Lib.hid (Below.refl W.heap.size W)
  have hem := emptyHd_any W (ht.below hb1)
  obtain ⟨r, hr⟩ : ∃ r, r = rootF [] := ⟨_, rfl⟩
  rw [← hr] at hem ⊢
  have d0 : decide (who < 0) = false := decide_eq_false (by omega)
  have d1 : decide (4 ≤ who) = false := decide_eq_false (by omega)
  clear ht g0 hb1 hr
  go_enter Tryd.func5, Tryd.ntmps5
  go_wp2_with fail
  (with_reducible refine (hem).mono ?_)
  rintro e w1 ⟨rfl, hb⟩
  have HB1 := Lib.hid (HB0.out.trans (hb.mono HB0.out.size))
  clear hb hem
  go_wp2_with (refine wpList_store_blk (by rfl) 30 (.tmp 4) (.tmp 17) rfl (w.heap.size) #[.int .i64 who, .string key, .slice none 0 0, .int .i64 (-1), .int .i64 0, .string r] rfl rfl (old := _) (HG0.out _ HB1.out) (by kernel_rfl) rfl (by simp [Value.oneCell']) ?_; intro wz gz uz)
  obtain ⟨r0, r1, r2, r3, r4, r5⟩ := six_cells (gz)
  refine bodyPost_ret (v := .tuple #[.agg #[.int .i64 who, .string key, .slice none 0 0, .int .i64 (-1), .int .i64 0, .string r], .int .i64 0]) ?_ rfl ⟨rfl, below_upd (HW0.out.trans (HB1.out.mono HW0.out.size)) uz (by omega) (HW0.out.trans (HB1.out.mono HW0.out.size)).size⟩
  simp [results, Tryd.f5, go_sem, r0, r1, r2, r3, r4, r5]
theorem fol_1 {old h : Hed} {ps : List ByteArray} (h1 : h.1 < old.1) : folF old h ps = 15 := by unfold folF; rw [if_pos h1]
theorem fol_2 {old h : Hed} {ps : List ByteArray} (h1 : ¬ h.1 < old.1) (h2 : h.1 = old.1) (h3 : h.2 = old.2) : folF old h ps = 0 := by unfold folF; rw [if_neg h1, if_pos ⟨h2, h3⟩]
theorem fol_3 {old h : Hed} {ps : List ByteArray} (h1 : ¬ h.1 < old.1) (h2 : ¬ (h.1 = old.1 ∧ h.2 = old.2)) {b : Bool} (h3 : extF old.2 old.1 h.2 h.1 ps = b) : folF old h ps = if b = true then 0 else 16 := by unfold folF; rw [if_neg h1, if_neg h2, h3]
set_option maxRecDepth 100000 in
set_option maxHeartbeats 3200000 in
theorem follows_any (old h : Hed) (ps : List ByteArray) (v : Value) (w : World) (hs : old.2.size ≤ 140737488355328) (hr : rdS w v ps) (hsm : smalls ps) (ht : Tab w) :
    Calls Tryd.prog 14 #[.agg #[.int .i64 old.1, .string old.2], .agg #[.int .i64 h.1, .string h.2], v] w fun e w' => e = .returned (.int .i64 (folF old h ps)) ∧ Below w.heap.size w w' := by
  obtain ⟨F, hF⟩ : ∃ F, F = folF old h ps := ⟨_, rfl⟩
  rw [← hF]
  have HF := Lib.hid hF
  obtain ⟨ao, cp, rfl⟩ := rd_form hr
  obtain ⟨W, hW⟩ : ∃ W, (w.alloc (.cells #[.int .i64 old.1, .string old.2] 28)).alloc (.cells #[.int .i64 h.1, .string h.2] 28) = W := ⟨_, rfl⟩
  have hb1 : Below w.heap.size w W := by rw [← hW]; exact ((Below.refl _ _).alloc (Nat.le_refl _) _).alloc (by simp) _
  have g0 : W.heap[w.heap.size]? = some (.cells #[.int .i64 old.1, .string old.2] 28 (0, 0)) := by rw [← hW]; exact heap_old (heap_alloc_new _ _)
  have HG0 := Lib.hid (fun wr (h : Below W.heap.size W wr) => blk_below g0 h)
  have g1 : W.heap[w.heap.size + 1]? = some (.cells #[.int .i64 h.1, .string h.2] 28 (0, 0)) := by rw [← hW]; exact heap_new (by simp)
  have HG1 := Lib.hid (fun wr (h : Below W.heap.size W wr) => blk_below g1 h)
  have HW0 := Lib.hid hb1
  have HB0 := Lib.hid (Below.refl W.heap.size W)
  obtain ⟨c0, c1, cz0, cz1⟩ := cell_of_two g0
  obtain ⟨d0, d1, dz0, dz1⟩ := cell_of_two g1
  have hex := extends_any old.2 h.2 old.1 h.1 ps _ W hs (hr.below hb1) hsm (ht.below hb1)
  obtain ⟨b, hb⟩ : ∃ b, b = extF old.2 old.1 h.2 h.1 ps := ⟨_, rfl⟩
  rw [← hb] at hex
  have HE := Lib.hid hb
  clear ht g0 g1 hb1 hb hr hF cz0 cz1 dz0 dz1 hs hsm
  go_enter Tryd.func14, Tryd.ntmps14
  by_cases h1 : h.1 < old.1
  · have hF := HF.out.trans (fol_1 h1)
    subst hF
    have k0 : decide (h.1 < old.1) = true := decide_eq_true h1
    clear h1
    go_wp2_with fail
    go_ret
    exact ⟨rfl, HW0.out⟩
  · have k0 : decide (h.1 < old.1) = false := decide_eq_false h1
    by_cases h2 : h.1 = old.1
    · have k1 : (h.1 == old.1) = true := beq_iff_eq.2 h2
      by_cases h3 : h.2 = old.2
      · have hF := HF.out.trans (fol_2 h1 h2 h3)
        subst hF
        have k2 : (h.2.toList == old.2.toList) = true := by rw [h3]; exact beq_yes _
        clear h1 h2 h3
        go_wp2_with fail
        go_ret
        exact ⟨rfl, HW0.out⟩
      · have hF := HF.out.trans (fol_3 h1 (fun k => h3 k.2) HE.out.symm)
        have k2 : (h.2.toList == old.2.toList) = false := beq_no h3
        clear h1 h2 h3
        go_wp2_with fail
        (with_reducible refine (hex).mono ?_)
        rintro e w1 ⟨rfl, hb⟩
        have HB1 := Lib.hid (HB0.out.trans (hb.mono HB0.out.size))
        clear hb hex
        cases b with
        | true => (subst hF; go_wp2_with fail; go_ret; exact ⟨rfl, HW0.out.trans (HB1.out.mono HW0.out.size)⟩)
        | false => (subst hF; go_wp2_with fail; go_ret; exact ⟨rfl, HW0.out.trans (HB1.out.mono HW0.out.size)⟩)
    · have k1 : (h.1 == old.1) = false := beq_eq_false_iff_ne.2 h2
      have hF := HF.out.trans (fol_3 h1 (fun k => h2 k.1) HE.out.symm)
      clear h1 h2
      go_wp2_with fail
      (with_reducible refine (hex).mono ?_)
      rintro e w1 ⟨rfl, hb⟩
      have HB1 := Lib.hid (HB0.out.trans (hb.mono HB0.out.size))
      clear hb hex
      cases b with
      | true => (subst hF; go_wp2_with fail; go_ret; exact ⟨rfl, HW0.out.trans (HB1.out.mono HW0.out.size)⟩)
      | false => (subst hF; go_wp2_with fail; go_ret; exact ⟨rfl, HW0.out.trans (HB1.out.mono HW0.out.size)⟩)
end Go.Proofs.YtmacceamebdelaaDoor
