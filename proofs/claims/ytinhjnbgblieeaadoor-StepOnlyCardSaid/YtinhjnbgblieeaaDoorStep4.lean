/- The walk of package step's Check. -/
import Derived.Test.YtinhjnbgblieeaaDoorStep2
import Derived.Test.YtinhjnbgblieeaaDoorSumSeal
namespace Go.Proofs.YtinhjnbgblieeaaDoor
open Go.RowKit
set_option linter.unusedVariables false
set_option linter.unusedSimpArgs false

theorem key_cells {w : World} {n : Nat} {a b c : Value} (h : w.heap[n]? = some (.cells #[a, b, c] 34 (0, 0))) :
    w.cell? ⟨n, 0, none⟩ = some a ∧ w.cell? ⟨n, 1, none⟩ = some b ∧ w.cell? ⟨n, 2, none⟩ = some c := by
  refine ⟨?_, ?_, ?_⟩ <;> simp [World.cell?, h]
theorem goodS_who {s : Stp} (h : goodS s = 0) (j : Nat) (hj : j < s.who.length) : ∃ n : Nat, n < 8 ∧ s.who.getD j 0 = (n : Int) := by
  obtain ⟨hh, P, hP, hs⟩ := goodS_inv h
  have e : s.who = P.map Prod.fst := congrArg Stp.who hs
  rw [e] at hj ⊢
  have hj' : j < P.length := by simpa using hj
  rw [getD_map _ _ _ _ hj']
  have := hP.rng P[j] (List.getElem_mem hj')
  exact ⟨P[j].1.toNat, by omega, by omega⟩
section
variable {sl : ByteArray → ByteArray → ByteArray} {sg : List ByteArray} {bd : ByteArray} {s : Stp} {k n : Nat} {need at_ : Int}
theorem rowC_z (h : s.who.getD k 0 = (n : Int)) (h1 : n < sg.length) (h2 : sl (sg.getD n noB) bd = s.seals.getD k noB) : rowC sl sg bd s k = 0 := by
  unfold rowC
  rw [h, if_neg]
  rintro (e | e)
  · omega
  · exact e (by simpa using h2)
theorem rowC_t (h : s.who.getD k 0 = (n : Int)) (h2 : sl (sg.getD n noB) bd ≠ s.seals.getD k noB) : rowC sl sg bd s k = 13 := by
  unfold rowC
  rw [h, if_pos (.inr (by simpa using h2))]
theorem checkF_1 (h : goodS s ≠ 0) : checkF sl sg need at_ s = goodS s := by unfold checkF; rw [if_pos h]
theorem checkF_2 (h : goodS s = 0) (h2 : (bodyF at_ s).2 ≠ 0) : checkF sl sg need at_ s = (bodyF at_ s).2 := by unfold checkF; rw [if_neg (fun k => k h), if_pos h2]
theorem checkF_3 (h : goodS s = 0) (h2 : (bodyF at_ s).2 = 0) (hk : k < s.who.length) (ha : ∀ j, j < k → rowC sl sg (bodyF at_ s).1 s j = 0) (h13 : rowC sl sg (bodyF at_ s).1 s k = 13) : checkF sl sg need at_ s = 13 := by
  have he := firstE_at (f := rowC sl sg (bodyF at_ s).1 s) (k := k) (by rw [h13]; decide) (k0 := 0) (c := s.who.length) (Nat.zero_le _) (by omega) (fun j _ hj => ha j hj)
  unfold checkF; rw [if_neg (fun k => k h), if_neg (fun k => k h2), if_pos (by rw [he, h13]; decide), he, h13]
theorem checkF_4 (h : goodS s = 0) (h2 : (bodyF at_ s).2 = 0) (ha : ∀ j, j < s.who.length → rowC sl sg (bodyF at_ s).1 s j = 0) : checkF sl sg need at_ s = if (s.who.length : Int) < need then 13 else 0 := by
  have he := firstE_all (f := rowC sl sg (bodyF at_ s).1 s) (k0 := 0) (c := s.who.length) (fun j _ hj => ha j (by omega))
  unfold checkF; rw [if_neg (fun k => k h), if_neg (fun k => k h2), if_neg (fun k => k he)]
end
set_option maxRecDepth 100000 in
set_option maxHeartbeats 3200000 in
theorem checkStp_any (sg wt : List ByteArray) (need at_ : Int) (s : Stp) (vg vt vw vs : Value) (w : World) (hg : rdS w vg sg) (hwt : rdS w vt wt) (hw : rdI w vw s.who) (hs : rdS w vs s.seals) (hk : ∀ n, n < sg.length → (sg.getD n noB).size ≤ 140737488355328) (ht : Tab w) :
    Calls Tryd.prog 15 #[.agg #[vg, vt, .int .i64 need], .int .i64 at_, .agg #[.string s.ref, .string s.old, .string s.new, vw, vs]] w fun e w' => e = .returned (.int .i64 (checkF sealF sg need at_ s)) ∧ Below w.heap.size w w' := by
  obtain ⟨F, hF⟩ : ∃ F, F = checkF sealF sg need at_ s := ⟨_, rfl⟩
  rw [← hF]
  have HF := Lib.hid hF
  have HG := Lib.hid hg
  have HW := Lib.hid hw
  have HS := Lib.hid hs
  have HT := Lib.hid ht
  have HKS := Lib.hid hk
  obtain ⟨ae, ce, rfl⟩ := rd_form hw
  obtain ⟨af, cf, rfl⟩ := rd_form hs
  obtain ⟨ag, cg, rfl⟩ := rd_form hg
  obtain ⟨ah, ch, rfl⟩ := rd_form hwt
  clear hF hw hs ht hk hg hwt
  obtain ⟨W, hW⟩ : ∃ W, (w.alloc (.cells #[.slice ag sg.length cg, .slice ah wt.length ch, .int .i64 need] 34)).alloc (.cells #[.string s.ref, .string s.old, .string s.new, .slice ae s.who.length ce, .slice af s.seals.length cf] 25) = W := ⟨_, rfl⟩
  have hbW : Below w.heap.size w W := by rw [← hW]; exact ((Below.refl _ _).alloc (Nat.le_refl _) _).alloc (by simp) _
  have g0 : W.heap[w.heap.size]? = some (.cells #[.slice ag sg.length cg, .slice ah wt.length ch, .int .i64 need] 34 (0, 0)) := by rw [← hW]; exact (Below.heap_alloc _ _ _ (by simp)).trans (heap_alloc_new _ _)
  have g1 : W.heap[w.heap.size + 1]? = some (.cells #[.string s.ref, .string s.old, .string s.new, .slice ae s.who.length ce, .slice af s.seals.length cf] 25 (0, 0)) := by rw [← hW]; have := heap_alloc_new (w.alloc (.cells #[.slice ag sg.length cg, .slice ah wt.length ch, .int .i64 need] 34)) (.cells #[.string s.ref, .string s.old, .string s.new, .slice ae s.who.length ce, .slice af s.seals.length cf] 25); simpa using this
  have HBW := Lib.hid hbW
  have HG0 := Lib.hid (fun w' (h : Below W.heap.size W w') => blk_below g0 h)
  have HG1 := Lib.hid (fun w' (h : Below W.heap.size W w') => blk_below g1 h)
  have HWR := Lib.hid (fun wr (h : Below W.heap.size W wr) => HW.out.below (HBW.out.trans (h.mono HBW.out.size)))
  have HSR := Lib.hid (fun wr (h : Below W.heap.size W wr) => HS.out.below (HBW.out.trans (h.mono HBW.out.size)))
  have HGR := Lib.hid (fun wr (h : Below W.heap.size W wr) => HG.out.below (HBW.out.trans (h.mono HBW.out.size)))
  have HGD := Lib.hid (goodStp_any s (.slice ae s.who.length ce) (.slice af s.seals.length cf) W (HW.out.below HBW.out) (HS.out.below HBW.out))
  obtain ⟨c0, c1, c2, c3, c4, _, _⟩ := stp_cells g1
  obtain ⟨k0, k1, k2⟩ := key_cells g0
  clear hbW g0 g1 HW HS HG
  obtain ⟨eg, heg⟩ : ∃ eg, eg = goodS s := ⟨_, rfl⟩
  rw [← heg] at HGD
  by_cases hgz : eg = 0
  · subst hgz
    have HG0S := Lib.hid heg.symm
    have hh := (goodS_inv heg.symm).1
    have HBD := Lib.hid (fun wr => bodyStp_any at_ s (.slice ae s.who.length ce) (.slice af s.seals.length cf) wr hh)
    have HWN := Lib.hid (fun j hj => goodS_who heg.symm j hj)
    have HLE := Lib.hid (show s.who.length ≤ 8 ∧ s.seals.length = s.who.length by have hb : ¬ (8 < s.who.length ∨ s.who.length ≠ s.seals.length) := fun hb => absurd (goodS_2 hh hb) (by rw [← heg]; decide); omega)
    have HBS := Lib.hid (show (bodyF at_ s).1.size ≤ 140737488355328 by
      by_cases hat : at_ < 0 ∨ 200 ≤ at_
      · rw [bodyF_1 hat]; decide
      · rw [bodyF_2 hat]
        show (bodyL at_.toNat s).toArray.size ≤ _
        have := body_length (n := at_.toNat) (by omega) hh
        simp only [List.size_toArray]; omega)
    by_cases hbz : (bodyF at_ s).2 = 0
    · have HFE0 := Lib.hid (fun k (h1 : k < s.who.length) (h2 : ∀ j, j < k → rowC sealF sg (bodyF at_ s).1 s j = 0) h3 => HF.out.trans (checkF_3 heg.symm hbz h1 h2 h3))
      have HFN := Lib.hid (fun h1 => HF.out.trans (checkF_4 heg.symm hbz h1))
      rw [hbz] at HBD
      obtain ⟨bd, hbd⟩ : ∃ bd, bd = (bodyF at_ s).1 := ⟨_, rfl⟩
      rw [← hbd] at HBD HBS HFE0 HFN
      clear heg hh hbd hbz
      go_enter Tryd.func15, Tryd.ntmps15
      go_wp2_with fail
      (with_reducible refine HGD.out.mono ?_)
      rintro e w1 ⟨rfl, hb⟩
      have HB1 := Lib.hid hb
      clear hb k0 k1 k2 c0 c1 c2 c3 c4
      obtain ⟨k0, k1, k2⟩ := key_cells (HG0.out _ HB1.out)
      obtain ⟨c0, c1, c2, c3, c4, _, _⟩ := stp_cells (HG1.out _ HB1.out)
      go_wp2_with fail
      (with_reducible refine (HBD.out w1).mono ?_)
      rintro e w2 ⟨rfl, hb⟩
      have HB2 := Lib.hid (HB1.out.trans (hb.mono HB1.out.size))
      clear hb k0 k1 k2 c0 c1 c2 c3 c4
      obtain ⟨k0, k1, k2⟩ := key_cells (HG0.out _ HB2.out)
      obtain ⟨c0, c1, c2, c3, c4, _, _⟩ := stp_cells (HG1.out _ HB2.out)
      go_wp2_with fail
      have HFE := HFE0
      clear k0 k1 k2 c0 c1 c2 c3 c4
      go_loopw [6, 29] (fun r i wr => ∃ k : Nat, k ≤ s.who.length ∧ r = .int .i64 0 ∧ i = .int .i64 (k : Int) ∧ Hid (∀ j, j < k → rowC sealF sg bd s j = 0) ∧ Hid (Below W.heap.size W wr)) (fun _ i _ => s.who.length - (intOf i).toNat)
      case atStart => exact ⟨0, Nat.zero_le _, rfl, rfl, Lib.hid fun j hj => absurd hj (Nat.not_lt_zero _), HB2⟩
      case round =>
        clear HB1 HB2
        obtain ⟨k, hk, rfl, rfl, HALL, HB9⟩ := hrel
        obtain ⟨k0, k1, k2⟩ := key_cells (HG0.out _ HB9.out)
        obtain ⟨c0, c1, c2, c3, c4, _, _⟩ := stp_cells (HG1.out _ HB9.out)
        by_cases hl : k < s.who.length
        · have hkl : decide ((k : Int) < (s.who.length : Int)) = true := decide_eq_true (by omega)
          have hki : (k : Int) < (s.who.length : Int) := by omega
          have hk0 : (0 : Int) ≤ (k : Int) := by omega
          obtain ⟨bw, ow, hae, hbw, hcw⟩ := rdI_at (HWR.out _ HB9.out) (by omega)
          subst hae
          have d0 := hcw k hl
          obtain ⟨n, hn8, hn⟩ := HWN.out k hl
          rw [hn] at d0
          have HN := Lib.hid hn
          have HKL := Lib.hid hl
          clear hbw hcw hn
          by_cases hg : sg.length ≤ n
          · have gb : decide (sg.length ≤ n) = true := decide_eq_true hg
            have HBAD := Lib.hid (show rowC sealF sg bd s k = 13 by unfold rowC; rw [HN.out, if_pos (.inl (by omega))])
            clear hg
            go_wp2_with fail
            refine Lone.wp_region_order [(0, false), (1, false), (2, false), (3, false), (4, false), (5, false), (6, false), (7, false), (8, false), (9, false), (10, false), (11, false), (13, false), (14, false), (15, false), (16, false), (17, false), (12, true), (18, false), (19, false)] (fun w' => w'.cell? ⟨w.heap.size, 0, none⟩ = some (.slice ag sg.length cg)) (by kernel_rfl) (by kernel_rfl) rfl (by kernel_rfl) (by intro _ _ d _ _ h; cases d <;> exact h) (k0) ?_; simp only [List.map_cons, List.map_nil, List.getElem?_toArray, List.getElem?_cons_zero, List.getElem?_cons_succ, Option.getD_some]
            repeat (first | (refine Lone.ro_q (by rfl) (v := ?_) ?_ ?_; rotate_left; (focus (intro w' hSw; (try dsimp only at hSw); go_simp; try with_reducible rfl)); simp only [Act.put, List.setIfInBounds_toArray, List.set_cons_zero, List.set_cons_succ]) | (refine Lone.ro_skip (by rfl) ?_; simp only [Act.put, List.setIfInBounds_toArray, List.set_cons_zero, List.set_cons_succ]))
            refine Lone.ro_skipL (by rfl) (by assumption) ?_; simp only [Act.put, List.setIfInBounds_toArray, List.set_cons_zero, List.set_cons_succ]
            repeat (first | (refine Lone.ro_q (by rfl) (v := ?_) ?_ ?_; rotate_left; (focus (intro w' hSw; (try dsimp only at hSw); go_simp; try with_reducible rfl)); simp only [Act.put, List.setIfInBounds_toArray, List.set_cons_zero, List.set_cons_succ]) | (refine Lone.ro_skip (by rfl) ?_; simp only [Act.put, List.setIfInBounds_toArray, List.set_cons_zero, List.set_cons_succ]))
            (refine Lone.ro_nil ?_; go_wp2_with fail)
            have HOK := HBAD
            have hF := HFE.out k HKL.out HALL.out HBAD.out
            subst hF
            go_ret
            exact ⟨rfl, HBW.out.trans (HB9.out.drew.mono HBW.out.size)⟩
          · have gb : decide (sg.length ≤ n) = false := decide_eq_false hg
            have gi : (n : Int) < (sg.length : Int) := by omega
            have gn0 : (0 : Int) ≤ (n : Int) := by omega
            have HGN := Lib.hid (show n < sg.length by omega)
            obtain ⟨bg, og, hag, hbg, hcg⟩ := rdS_at' (HGR.out _ HB9.out.drew) (by omega)
            subst hag
            obtain ⟨bs, os, haf, hbs, hcs⟩ := rdS_at' (HSR.out _ HB9.out.drew) (by have := HLE.out; omega)
            subst haf
            have d1 := hcg n HGN.out
            have d2 := hcs k (by have := HLE.out; omega)
            have hks : (k : Int) < (s.seals.length : Int) := by have := HLE.out; omega
            obtain ⟨y, hy⟩ : ∃ y, y = sg.getD n noB := ⟨_, rfl⟩
            obtain ⟨q, hq⟩ : ∃ q, q = s.seals.getD k noB := ⟨_, rfl⟩
            rw [← hy] at d1
            rw [← hq] at d2
            have HY := Lib.hid hy
            have HQ := Lib.hid hq
            have HYS := Lib.hid (show y.size ≤ 140737488355328 by rw [hy]; exact HKS.out n HGN.out)
            clear hy hq hcg hcs hbg hbs hg
            have q0 := k0
            have q4 := c4
            have HRW := Lib.hid (show sealF y bd = q → rowC sealF sg bd s k = 0 from fun e => rowC_z HN.out HGN.out (by rw [← HY.out, ← HQ.out]; exact e))
            have HRX := Lib.hid (show sealF y bd ≠ q → rowC sealF sg bd s k = 13 from fun e => rowC_t HN.out (by rw [← HY.out, ← HQ.out]; exact e))
            go_wp2_with fail
            refine Lone.wp_region_order [(0, false), (1, false), (2, false), (3, false), (4, false), (5, false), (6, false), (7, false), (8, false), (9, false), (10, false), (11, false), (13, false), (14, false), (15, false), (16, false), (17, false), (12, true), (18, false), (19, false)] (fun w' => w'.cell? ⟨w.heap.size, 0, none⟩ = some (.slice (some ⟨bg, og, none⟩) sg.length cg) ∧ w'.cell? ⟨w.heap.size + 1, 4, none⟩ = some (.slice (some ⟨bs, os, none⟩) s.seals.length cf) ∧ w'.cell? ⟨bg, og + n, none⟩ = some (.string y) ∧ w'.cell? ⟨bs, os + k, none⟩ = some (.string q)) (by kernel_rfl) (by kernel_rfl) rfl (by kernel_rfl) (by intro _ _ d _ _ h; cases d <;> exact h) (⟨k0, c4, d1, d2⟩) ?_; simp only [List.map_cons, List.map_nil, List.getElem?_toArray, List.getElem?_cons_zero, List.getElem?_cons_succ, Option.getD_some]
            repeat (first | (refine Lone.ro_q (by rfl) (v := ?_) ?_ ?_; rotate_left; (focus (intro w' hSw; (try dsimp only at hSw); go_simp; try with_reducible rfl)); simp only [Act.put, List.setIfInBounds_toArray, List.set_cons_zero, List.set_cons_succ]) | (refine Lone.ro_skip (by rfl) ?_; simp only [Act.put, List.setIfInBounds_toArray, List.set_cons_zero, List.set_cons_succ]))
            (refine Lone.ro_loud (by rfl) (fun K hK => ?_); go_simp)
            (with_reducible refine (seal_any y bd _ HBS.out HYS.out (HT.out.below (HBW.out.trans (HB9.out.drew.mono HBW.out.size)))).mono ?_)
            rintro e w5 ⟨rfl, hb⟩
            have e1 := (hb.cell (p := ⟨bg, og + n, none⟩) (block_lt_of_cell d1)).trans d1
            have e2 := (hb.cell (p := ⟨bs, os + k, none⟩) (block_lt_of_cell d2)).trans d2
            have HB5 := Lib.hid (HB9.out.drew.trans (hb.mono HB9.out.drew.size))
            clear hb
            have e3 := (key_cells (HG0.out _ HB5.out)).1
            have e4 := (stp_cells (HG1.out _ HB5.out)).2.2.2.2.1
            (refine hK.out _ _ (fun w' => w'.cell? ⟨w.heap.size, 0, none⟩ = some (.slice (some ⟨bg, og, none⟩) sg.length cg) ∧ w'.cell? ⟨w.heap.size + 1, 4, none⟩ = some (.slice (some ⟨bs, os, none⟩) s.seals.length cf) ∧ w'.cell? ⟨bg, og + n, none⟩ = some (.string y) ∧ w'.cell? ⟨bs, os + k, none⟩ = some (.string q)) (.inl fun _ h => h) (⟨e3, e4, e1, e2⟩) ?_; clear hK K; try simp only [Act.put, List.setIfInBounds_toArray, List.set_cons_zero, List.set_cons_succ])
            clear e1 e2 e3 e4 d1 d2 q0 q4 k0 k1 k2 c0 c1 c2 c3 c4
            by_cases hs : sealF y bd = q
            · have HOK := Lib.hid (HRW.out hs)
              have sb : ((sealF y bd).toList == q.toList) = true := by rw [hs]; exact beq_self_eq_true _
              clear hs
              repeat (first | (refine Lone.ro_q (by rfl) (v := ?_) ?_ ?_; rotate_left; (focus (intro w' hSw; (try dsimp only at hSw); go_simp; try with_reducible rfl)); simp only [Act.put, List.setIfInBounds_toArray, List.set_cons_zero, List.set_cons_succ]) | (refine Lone.ro_skip (by rfl) ?_; simp only [Act.put, List.setIfInBounds_toArray, List.set_cons_zero, List.set_cons_succ]))
              (refine Lone.ro_nil ?_; go_wp2_with fail)
              have hw1 : wrap64 ((k : Int) + 1) = (k : Int) + 1 := IntWalk.wrap64_in _ (by have := HKL.out; have := HLE.out; omega)
              go_wp2_with fail
              go_roundw
              case rel => exact ⟨k + 1, by have := HKL.out; omega, rfl, by first | rfl | (rw [hw1]; rfl), Lib.hid fun j hj => by (by_cases hjk : j = k; rw [hjk]; exact HOK.out; exact HALL.out j (by omega)), HB5⟩
              case measure => exact meas_step _ (by first | rfl | exact hw1) HKL.out
            · have HOK := Lib.hid (HRX.out hs)
              have sb : ((sealF y bd).toList == q.toList) = false := beq_eq_false_iff_ne.2 (fun e => hs (toList_inj e))
              clear hs
              repeat (first | (refine Lone.ro_q (by rfl) (v := ?_) ?_ ?_; rotate_left; (focus (intro w' hSw; (try dsimp only at hSw); go_simp; try with_reducible rfl)); simp only [Act.put, List.setIfInBounds_toArray, List.set_cons_zero, List.set_cons_succ]) | (refine Lone.ro_skip (by rfl) ?_; simp only [Act.put, List.setIfInBounds_toArray, List.set_cons_zero, List.set_cons_succ]))
              (refine Lone.ro_nil ?_; go_wp2_with fail)
              have hF := HFE.out k HKL.out HALL.out HOK.out
              subst hF
              go_ret
              exact ⟨rfl, HBW.out.trans (HB5.out.mono HBW.out.size)⟩
        · have hkn : k = s.who.length := by omega
          have hkl : decide ((k : Int) < (s.who.length : Int)) = false := decide_eq_false (by omega)
          have hF := HFN.out (fun j hj => HALL.out j (by omega))
          by_cases hnd : (s.who.length : Int) < need
          · have nb : decide ((s.who.length : Int) < need) = true := decide_eq_true hnd
            rw [if_pos hnd] at hF
            subst hF
            clear hnd
            go_wp2_with fail
            go_ret
            exact ⟨rfl, HBW.out.trans (HB9.out.mono HBW.out.size)⟩
          · have nb : decide ((s.who.length : Int) < need) = false := decide_eq_false hnd
            rw [if_neg hnd] at hF
            subst hF
            clear hnd
            go_wp2_with fail
            go_ret
            exact ⟨rfl, HBW.out.trans (HB9.out.mono HBW.out.size)⟩
    · have hF := HF.out.trans (checkF_2 HG0S.out hbz)
      obtain ⟨eb, heb⟩ : ∃ eb, eb = (bodyF at_ s).2 := ⟨_, rfl⟩
      obtain ⟨bd, hbd⟩ : ∃ bd, bd = (bodyF at_ s).1 := ⟨_, rfl⟩
      rw [← heb] at hF HBD hbz
      rw [← hbd] at HBD
      subst hF
      have n1 : (F == 0) = false := beq_eq_false_iff_ne.2 hbz
      have n2 : (F != 0) = true := by rw [bne, n1]; rfl
      clear heb hbd hbz hh
      go_enter Tryd.func15, Tryd.ntmps15
      go_wp2_with fail
      (with_reducible refine HGD.out.mono ?_)
      rintro e w1 ⟨rfl, hb⟩
      have HB1 := Lib.hid hb
      clear hb k0 k1 k2 c0 c1 c2 c3 c4
      obtain ⟨k0, k1, k2⟩ := key_cells (HG0.out _ HB1.out)
      obtain ⟨c0, c1, c2, c3, c4, _, _⟩ := stp_cells (HG1.out _ HB1.out)
      go_wp2_with fail
      (with_reducible refine (HBD.out w1).mono ?_)
      rintro e w2 ⟨rfl, hb⟩
      have HB2 := Lib.hid (HB1.out.trans (hb.mono HB1.out.size))
      clear hb k0 k1 k2 c0 c1 c2 c3 c4
      obtain ⟨k0, k1, k2⟩ := key_cells (HG0.out _ HB2.out)
      obtain ⟨c0, c1, c2, c3, c4, _, _⟩ := stp_cells (HG1.out _ HB2.out)
      go_wp2_with fail
      go_ret
      exact ⟨rfl, HBW.out.trans (HB2.out.mono HBW.out.size)⟩
  · have hF := HF.out.trans (checkF_1 (fun e => hgz (heg.trans e)))
    rw [← heg] at hF
    subst hF
    have n1 : (F == 0) = false := beq_eq_false_iff_ne.2 hgz
    have n2 : (F != 0) = true := by rw [bne, n1]; rfl
    clear heg hgz
    go_enter Tryd.func15, Tryd.ntmps15
    go_wp2_with fail
    (with_reducible refine HGD.out.mono ?_)
    rintro e w1 ⟨rfl, hb⟩
    have HB1 := Lib.hid hb
    clear hb k0 k1 k2 c0 c1 c2 c3 c4
    obtain ⟨k0, k1, k2⟩ := key_cells (HG0.out _ HB1.out)
    obtain ⟨c0, c1, c2, c3, c4, _, _⟩ := stp_cells (HG1.out _ HB1.out)
    go_wp2_with fail
    go_ret
    exact ⟨rfl, HBW.out.trans (HB1.out.mono HBW.out.size)⟩
end Go.Proofs.YtinhjnbgblieeaaDoor
