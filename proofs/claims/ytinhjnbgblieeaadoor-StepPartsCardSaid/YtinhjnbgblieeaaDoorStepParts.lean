/- StepParts: up to where a replay goes wrong each beginning goes well, and from there on wrong alike. -/
import Derived.Test.YtinhjnbgblieeaaDoorStep9
import Derived.Test.YtinhjnbgblieeaaDoorStB
import Derived.Test.YtinhjnbgblieeaaDoorMer
namespace Go.Proofs.YtinhjnbgblieeaaDoor
open Go.RowKit
set_option linter.unusedVariables false
set_option linter.unusedSimpArgs false

theorem pick_in2 (i : Int) (n : Nat) (h1 : -9223372036854775808 ≤ i) (h2 : i ≤ 9223372036854775807) (hn : n ≤ 140737488351232) :
    ∃ m : Nat, m ≤ n ∧ ∀ w' : World, Calls Tryd.prog 24 #[.int .i64 i, .int .i64 ((n : Int) + 1)] w' fun e w'' => e = .returned (.int .i64 (m : Int)) ∧ w' = w'' := by
  have hp := pick_law i (n + 1) (by omega)
  refine ⟨(i % ((n + 1 : Nat) : Int)).toNat, by omega, fun w' => ?_⟩
  have h := pick_any i (n + 1) w' h1 h2 (by omega) (by omega)
  rw [show ((n : Int) + 1) = ((n + 1 : Nat) : Int) by omega, show (((i % ((n + 1 : Nat) : Int)).toNat : Nat) : Int) = i % ((n + 1 : Nat) : Int) by omega]
  exact h
set_option maxRecDepth 100000 in
set_option maxHeartbeats 3200000 in
theorem stepParts_walk {w : World} (ht : Tab w) (sg wt : List ByteArray) (need : Int) (vg vt : Value) (hg : rdS w vg sg) (hwt : rdS w vt wt) (hs : ∀ s ∈ sg, s.size ≤ 140737488351232) (hs2 : ∀ s ∈ wt, s.size ≤ 140737488351232) (l : List Stp) (v : Value) (hr : rdT w v l) (hl : l.length ≤ 140737488351232) (n : Int) (hn : -9223372036854775808 ≤ n ∧ n ≤ 9223372036854775807) :
    Calls Tryd.prog 10 #[.agg #[vg, vt, .int .i64 need], v, .int .i64 n] w fun e w' => e = .returned (.bool true) ∧ Below w.heap.size w w' := by
  have HT := Lib.hid ht
  have HKS := Lib.hid (show ∀ n, n < sg.length → (sg.getD n noB).size ≤ 140737488355328 from fun n hn => by
    rw [List.getD, List.getElem?_eq_getElem hn]
    have := hs _ (List.getElem_mem hn)
    show (sg[n]).size ≤ _; omega)
  obtain ⟨g1, g2, rfl⟩ := rd_form hg
  obtain ⟨h1, h2, rfl⟩ := rd_form hwt
  obtain ⟨W, hW⟩ : ∃ W, w.alloc (.cells #[.slice g1 sg.length g2, .slice h1 wt.length h2, .int .i64 need] 34) = W := ⟨_, rfl⟩
  have hg0 : W.heap[w.heap.size]? = some (.cells #[.slice g1 sg.length g2, .slice h1 wt.length h2, .int .i64 need] 34 (0, 0)) := by rw [← hW]; exact heap_alloc_new _ _
  have hb1 : Below w.heap.size w W := by rw [← hW]; exact (Below.refl _ _).alloc (Nat.le_refl _) _
  have HW0 := Lib.hid hb1
  have HK := Lib.hid (fun wr (h : Below W.heap.size W wr) => blk_below hg0 h)
  have HGR := Lib.hid (fun wr (h : Below W.heap.size W wr) => (hg.below hb1).below h)
  have HVR := Lib.hid (fun wr (h : Below W.heap.size W wr) => (hwt.below hb1).below h)
  have HR := Lib.hid (fun wr (h : Below W.heap.size W wr) => (hr.below hb1).below h)
  have HB0 := Lib.hid (Below.refl W.heap.size W)
  obtain ⟨m, hm, hpk⟩ := pick_in2 n l.length hn.1 hn.2 hl
  obtain ⟨vl, hvl, hrl⟩ := rdT_to hr m hm
  have HRL := Lib.hid (fun wr (h : Below W.heap.size W wr) => (hrl.below hb1).below h)
  have HVL := Lib.hid hvl
  have HM := Lib.hid hm
  have HPK := Lib.hid hpk
  have HLW := Lib.hid (fun h => replay_law sealF sg need hm h)
  obtain ⟨a1, a2, rfl⟩ := rdT_form hr
  have hmi : (m : Int) ≤ (l.length : Int) := by omega
  have hm0 : (0 : Int) ≤ (m : Int) := by omega
  have hl1 : wrap64 ((l.length : Int) + 1) = (l.length : Int) + 1 := IntWalk.wrap64_in _ (by omega)
  obtain ⟨k0, k1, k2⟩ := key_cells hg0
  have hra := replay_any sg wt need l _ _ _ W (HGR.out _ HB0.out) (HVR.out _ HB0.out) (HR.out _ HB0.out) HKS.out (HT.out.below hb1)
  obtain ⟨⟨⟨A, at_⟩, e0⟩, hq⟩ : ∃ q, q = replayF sealF sg need l := ⟨_, rfl⟩
  obtain ⟨⟨⟨S, fr⟩, f0⟩, hq2⟩ : ∃ q, q = replayF sealF sg need (l.take m) := ⟨_, rfl⟩
  rw [← hq] at hra
  have HQ := Lib.hid hq
  have HQ2 := Lib.hid hq2
  have HLN := Lib.hid hl
  clear ht hg hwt hs hs2 hr hl hn hg0 hb1 hm hpk hvl hrl hq hq2
  go_enter Tryd.func10, Tryd.ntmps10
  go_wp2_with fail
  (with_reducible refine (hra).mono ?_)
  rintro e w1 ⟨va, rfl, hra2, hb⟩
  have HB1 := Lib.hid (HB0.out.trans (hb.mono HB0.out.size))
  have HL1 := Lib.hid hb
  clear hb
  have HRA := Lib.hid hra2
  clear hra hW hra2 HL1
  clear k0 k1 k2
  obtain ⟨x1, x2, rfl⟩ := rd_form HRA.out
  go_wp2_with fail
  (with_reducible refine (steps_any _ (HT.out.below (HW0.out.trans (HB1.out.mono HW0.out.size)))).mono ?_)
  rintro e w2 ⟨rfl, hb⟩
  have HB2 := Lib.hid (HB1.out.trans (hb.mono HB1.out.size))
  clear hb
  go_wp2_with fail
  (with_reducible refine (HPK.out _).mono ?_)
  rintro e w0 ⟨rfl, rfl⟩
  have HB3 := Lib.hid HB2.out.drew
  have hrb := replay_any sg wt need (l.take m) _ _ vl w2.drew (HGR.out _ HB3.out) (HVR.out _ HB3.out) (HRL.out _ HB3.out) HKS.out (HT.out.below (HW0.out.trans (HB3.out.mono HW0.out.size)))
  rw [← HQ2.out] at hrb
  go_wp2_with fail
  refine Lone.wp_region_order [(0, false), (1, false), (2, false), (3, false), (4, true), (5, false), (6, false), (7, false), (8, false), (9, false), (10, false), (11, false)] (fun w' => w'.cell? ⟨w.heap.size, 0, none⟩ = some (.slice g1 sg.length g2) ∧ w'.cell? ⟨w.heap.size, 1, none⟩ = some (.slice h1 wt.length h2) ∧ w'.cell? ⟨w.heap.size, 2, none⟩ = some (.int .i64 need)) (by kernel_rfl) (by kernel_rfl) rfl (by kernel_rfl) (by intro _ _ d _ _ h; cases d <;> exact h) (key_cells (HK.out _ HB3.out)) ?_; simp only [List.map_cons, List.map_nil, List.getElem?_toArray, List.getElem?_cons_zero, List.getElem?_cons_succ, Option.getD_some]
  repeat (first | (refine Lone.ro_q (by rfl) (v := ?_) ?_ ?_; rotate_left; (focus (intro w' hSw; (try dsimp only at hSw); go_simp; try with_reducible rfl)); simp only [Act.put, List.setIfInBounds_toArray, List.set_cons_zero, List.set_cons_succ]) | (refine Lone.ro_skip (by rfl) ?_; simp only [Act.put, List.setIfInBounds_toArray, List.set_cons_zero, List.set_cons_succ]))
  refine Lone.ro_q (by rfl) (v := vl) (fun w' hSw => by simp only [execOp, Act.eval, List.getElem?_toArray, List.getElem?_cons_zero, List.getElem?_cons_succ, Array.getD_eq_getD_getElem?, Option.getD_some, Option.map_some, Option.map_none, Sem.run_bind, HVL.out, Result.andThen, Sem.run_pure]) ?_; simp only [Act.put, List.setIfInBounds_toArray, List.set_cons_zero, List.set_cons_succ]
  repeat (first | (refine Lone.ro_q (by rfl) (v := ?_) ?_ ?_; rotate_left; (focus (intro w' hSw; (try dsimp only at hSw); go_simp; try with_reducible rfl)); simp only [Act.put, List.setIfInBounds_toArray, List.set_cons_zero, List.set_cons_succ]) | (refine Lone.ro_skip (by rfl) ?_; simp only [Act.put, List.setIfInBounds_toArray, List.set_cons_zero, List.set_cons_succ]))
  (refine Lone.ro_loud (by rfl) (fun K hK => ?_); go_simp)
  (with_reducible refine (hrb).mono ?_)
  rintro e w5 ⟨vb, rfl, hrb2, hb⟩
  have HB5 := Lib.hid (HB3.out.trans (hb.mono HB3.out.size))
  have HL5 := Lib.hid hb
  clear hb
  have HRB := Lib.hid hrb2
  clear hrb hrb2 HL5
  obtain ⟨y1, y2, rfl⟩ := rd_form HRB.out
  (refine hK.out _ _ (fun w' => w'.cell? ⟨w.heap.size, 0, none⟩ = some (.slice g1 sg.length g2) ∧ w'.cell? ⟨w.heap.size, 1, none⟩ = some (.slice h1 wt.length h2) ∧ w'.cell? ⟨w.heap.size, 2, none⟩ = some (.int .i64 need)) (.inl fun _ h => h) (key_cells (HK.out _ HB5.out)) ?_; clear hK K; try simp only [Act.put, List.setIfInBounds_toArray, List.set_cons_zero, List.set_cons_succ])
  repeat (first | (refine Lone.ro_q (by rfl) (v := ?_) ?_ ?_; rotate_left; (focus (intro w' hSw; (try dsimp only at hSw); go_simp; try with_reducible rfl)); simp only [Act.put, List.setIfInBounds_toArray, List.set_cons_zero, List.set_cons_succ]) | (refine Lone.ro_skip (by rfl) ?_; simp only [Act.put, List.setIfInBounds_toArray, List.set_cons_zero, List.set_cons_succ]))
  by_cases hbig : 200 < l.length
  · have b1 : decide ((200 : Int) < (l.length : Int)) = true := decide_eq_true (by omega)
    have b2 : decide (200 < l.length) = true := decide_eq_true hbig
    have hq := HQ.out
    rw [replayF_1 sealF sg need hbig] at hq
    simp only [Prod.mk.injEq] at hq
    obtain ⟨⟨rfl, rfl⟩, rfl⟩ := hq
    clear hbig
    (refine Lone.ro_nil ?_; go_wp2_with fail)
    go_ret
    exact ⟨rfl, HW0.out.trans (HB5.out.mono HW0.out.size)⟩
  · have b1 : decide ((200 : Int) < (l.length : Int)) = false := decide_eq_false (by omega)
    have b2 : decide (200 < l.length) = false := decide_eq_false hbig
    obtain ⟨hgood, hbad⟩ := HLW.out hbig
    rw [← HQ.out, ← HQ2.out] at hgood hbad
    simp only at hgood hbad
    by_cases hz : e0 = 0
    · obtain ⟨h1, h2, h3⟩ := hgood hz
      subst hz h1 h2 h3
      clear hgood hbad hbig
      (refine Lone.ro_nil ?_; go_wp2_with fail)
      go_ret
      exact ⟨rfl, HW0.out.trans (HB5.out.mono HW0.out.size)⟩
    · have n1 : (e0 == 0) = false := beq_eq_false_iff_ne.2 hz
      have n2 : (e0 != 0) = true := by rw [bne, n1]; rfl
      obtain ⟨h1, h2, h3⟩ := hbad hz
      subst h1
      by_cases hma : m ≤ at_
      · have c1 : decide ((m : Int) ≤ (at_ : Int)) = true := decide_eq_true (by omega)
        have c2 : decide (m ≤ at_) = true := decide_eq_true hma
        obtain rfl := h2 hma
        clear hgood hbad hbig hma h2 h3 hz
        (refine Lone.ro_nil ?_; go_wp2_with fail)
        go_ret
        exact ⟨rfl, HW0.out.trans (HB5.out.mono HW0.out.size)⟩
      · have c1 : decide ((m : Int) ≤ (at_ : Int)) = false := decide_eq_false (by omega)
        have c2 : decide (m ≤ at_) = false := decide_eq_false hma
        have h4 := h3 hma
        simp only [Prod.mk.injEq] at h4
        obtain ⟨⟨rfl, rfl⟩, rfl⟩ := h4
        have q1 : (f0 == f0) = true := beq_self_eq_true _
        have q2 : ((fr : Int) == (fr : Int)) = true := beq_self_eq_true _
        clear hgood hbad hbig hma h2 h3 hz
        (refine Lone.ro_nil ?_; go_wp2_with fail)
        go_ret
        exact ⟨rfl, HW0.out.trans (HB5.out.mono HW0.out.size)⟩
end Go.Proofs.YtinhjnbgblieeaaDoor
