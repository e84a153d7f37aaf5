/- Texts put together: Step4 Step5 Step6 StepEnc Step7 Step8 Stps. -/
import Derived.Test.YtinhjnbgblieeaaDoorStA
import Derived.Test.YtinhjnbgblieeaaDoorSha
import Derived.Test.YtinhjnbgblieeaaDoorBas
/-! Step4 -/
namespace Go.Proofs.YtinhjnbgblieeaaDoor
open Go.RowKit
set_option linter.unusedVariables false
set_option linter.unusedSimpArgs false

theorem key_cells {w : World} {n : Nat} {a b c : Value} (h : w.heap[n]? = some (.cells #[a, b, c] 34 (0, 0))) :
    w.cell? ⟨n, 0, none⟩ = some a ∧ w.cell? ⟨n, 1, none⟩ = some b ∧ w.cell? ⟨n, 2, none⟩ = some c := by
  refine ⟨?_, ?_, ?_⟩ <;> simp [World.cell?, h]
theorem goodS_who {s : Stp} (h : goodS s = 0) (j : Nat) (hj : j < s.who.length) : ∃ n : Nat, n < 8 ∧ s.who.getD j 0 = (n : Int) := by
  obtain ⟨hh, P, hP, hs⟩ := goodS_inv h
  have e : s.who = P.map Prod.fst := congrArg Stp.who hs
  rw [e] at hj ⊢
  have hj' : j < P.length := by simpa using hj
  rw [getD_map _ _ _ _ hj']
  have := hP.rng P[j] (List.getElem_mem hj')
  exact ⟨P[j].1.toNat, by omega, by omega⟩
section
variable {sl : ByteArray → ByteArray → ByteArray} {sg : List ByteArray} {bd : ByteArray} {s : Stp} {k n : Nat} {need at_ : Int}
theorem rowC_z (h : s.who.getD k 0 = (n : Int)) (h1 : n < sg.length) (h2 : sl (sg.getD n noB) bd = s.seals.getD k noB) : rowC sl sg bd s k = 0 := by
  unfold rowC
  rw [h, if_neg]
  rintro (e | e)
  · omega
  · exact e (by simpa using h2)
theorem rowC_t (h : s.who.getD k 0 = (n : Int)) (h2 : sl (sg.getD n noB) bd ≠ s.seals.getD k noB) : rowC sl sg bd s k = 13 := by
  unfold rowC
  rw [h, if_pos (.inr (by simpa using h2))]
theorem checkF_1 (h : goodS s ≠ 0) : checkF sl sg need at_ s = goodS s := by unfold checkF; rw [if_pos h]
theorem checkF_2 (h : goodS s = 0) (h2 : (bodyF at_ s).2 ≠ 0) : checkF sl sg need at_ s = (bodyF at_ s).2 := by unfold checkF; rw [if_neg (fun k => k h), if_pos h2]
theorem checkF_3 (h : goodS s = 0) (h2 : (bodyF at_ s).2 = 0) (hk : k < s.who.length) (ha : ∀ j, j < k → rowC sl sg (bodyF at_ s).1 s j = 0) (h13 : rowC sl sg (bodyF at_ s).1 s k = 13) : checkF sl sg need at_ s = 13 := by
  have he := firstE_at (f := rowC sl sg (bodyF at_ s).1 s) (k := k) (by rw [h13]; decide) (k0 := 0) (c := s.who.length) (Nat.zero_le _) (by omega) (fun j _ hj => ha j hj)
  unfold checkF; rw [if_neg (fun k => k h), if_neg (fun k => k h2), if_pos (by rw [he, h13]; decide), he, h13]
theorem checkF_4 (h : goodS s = 0) (h2 : (bodyF at_ s).2 = 0) (ha : ∀ j, j < s.who.length → rowC sl sg (bodyF at_ s).1 s j = 0) : checkF sl sg need at_ s = if (s.who.length : Int) < need then 13 else 0 := by
  have he := firstE_all (f := rowC sl sg (bodyF at_ s).1 s) (k0 := 0) (c := s.who.length) (fun j _ hj => ha j (by omega))
  unfold checkF; rw [if_neg (fun k => k h), if_neg (fun k => k h2), if_neg (fun k => k he)]
end
set_option maxRecDepth 100000 in
set_option maxHeartbeats 3200000 in
theorem checkStp_any (sg wt : List ByteArray) (need at_ : Int) (s : Stp) (vg vt vw vs : Value) (w : World) (hg : rdS w vg sg) (hwt : rdS w vt wt) (hw : rdI w vw s.who) (hs : rdS w vs s.seals) (hk : ∀ n, n < sg.length → (sg.getD n noB).size ≤ 140737488355328) (ht : Tab w) :
    Calls Tryd.prog 15 #[.agg #[vg, vt, .int .i64 need], .int .i64 at_, .agg #[.string s.ref, .string s.old, .string s.new, vw, vs]] w fun e w' => e = .returned (.int .i64 (checkF sealF sg need at_ s)) ∧ Below w.heap.size w w' := by
  obtain ⟨F, hF⟩ : ∃ F, F = checkF sealF sg need at_ s := ⟨_, rfl⟩
  rw [← hF]
  have HF := Lib.hid hF
  have HG := Lib.hid hg
  have HW := Lib.hid hw
  have HS := Lib.hid hs
  have HT := Lib.hid ht
  have HKS := Lib.hid hk
  obtain ⟨ae, ce, rfl⟩ := rd_form hw
  obtain ⟨af, cf, rfl⟩ := rd_form hs
  obtain ⟨ag, cg, rfl⟩ := rd_form hg
  obtain ⟨ah, ch, rfl⟩ := rd_form hwt
  clear hF hw hs ht hk hg hwt
  obtain ⟨W, hW⟩ : ∃ W, (w.alloc (.cells #[.slice ag sg.length cg, .slice ah wt.length ch, .int .i64 need] 34)).alloc (.cells #[.string s.ref, .string s.old, .string s.new, .slice ae s.who.length ce, .slice af s.seals.length cf] 25) = W := ⟨_, rfl⟩
  have hbW : Below w.heap.size w W := by rw [← hW]; exact ((Below.refl _ _).alloc (Nat.le_refl _) _).alloc (by simp) _
  have g0 : W.heap[w.heap.size]? = some (.cells #[.slice ag sg.length cg, .slice ah wt.length ch, .int .i64 need] 34 (0, 0)) := by rw [← hW]; exact (Below.heap_alloc _ _ _ (by simp)).trans (heap_alloc_new _ _)
  have g1 : W.heap[w.heap.size + 1]? = some (.cells #[.string s.ref, .string s.old, .string s.new, .slice ae s.who.length ce, .slice af s.seals.length cf] 25 (0, 0)) := by rw [← hW]; have := heap_alloc_new (w.alloc (.cells #[.slice ag sg.length cg, .slice ah wt.length ch, .int .i64 need] 34)) (.cells #[.string s.ref, .string s.old, .string s.new, .slice ae s.who.length ce, .slice af s.seals.length cf] 25); simpa using this
  have HBW := Lib.hid hbW
  have HG0 := Lib.hid (fun w' (h : Below W.heap.size W w') => blk_below g0 h)
  have HG1 := Lib.hid (fun w' (h : Below W.heap.size W w') => blk_below g1 h)
  have HWR := Lib.hid (fun wr (h : Below W.heap.size W wr) => HW.out.below (HBW.out.trans (h.mono HBW.out.size)))
  have HSR := Lib.hid (fun wr (h : Below W.heap.size W wr) => HS.out.below (HBW.out.trans (h.mono HBW.out.size)))
  have HGR := Lib.hid (fun wr (h : Below W.heap.size W wr) => HG.out.below (HBW.out.trans (h.mono HBW.out.size)))
  have HGD := Lib.hid (goodStp_any s (.slice ae s.who.length ce) (.slice af s.seals.length cf) W (HW.out.below HBW.out) (HS.out.below HBW.out))
  obtain ⟨c0, c1, c2, c3, c4, _, _⟩ := stp_cells g1
  obtain ⟨k0, k1, k2⟩ := key_cells g0
  clear hbW g0 g1 HW HS HG
  obtain ⟨eg, heg⟩ : ∃ eg, eg = goodS s := ⟨_, rfl⟩
  rw [← heg] at HGD
  by_cases hgz : eg = 0
  · subst hgz
    have HG0S := Lib.hid heg.symm
    have hh := (goodS_inv heg.symm).1
    have HBD := Lib.hid (fun wr => bodyStp_any at_ s (.slice ae s.who.length ce) (.slice af s.seals.length cf) wr hh)
    have HWN := Lib.hid (fun j hj => goodS_who heg.symm j hj)
    have HLE := Lib.hid (show s.who.length ≤ 8 ∧ s.seals.length = s.who.length by have hb : ¬ (8 < s.who.length ∨ s.who.length ≠ s.seals.length) := fun hb => absurd (goodS_2 hh hb) (by rw [← heg]; decide); omega)
    have HBS := Lib.hid (show (bodyF at_ s).1.size ≤ 140737488355328 by
      by_cases hat : at_ < 0 ∨ 200 ≤ at_
      · rw [bodyF_1 hat]; decide
      · rw [bodyF_2 hat]
        show (bodyL at_.toNat s).toArray.size ≤ _
        have := body_length (n := at_.toNat) (by omega) hh
        simp only [List.size_toArray]; omega)
    by_cases hbz : (bodyF at_ s).2 = 0
    · have HFE0 := Lib.hid (fun k (h1 : k < s.who.length) (h2 : ∀ j, j < k → rowC sealF sg (bodyF at_ s).1 s j = 0) h3 => HF.out.trans (checkF_3 heg.symm hbz h1 h2 h3))
      have HFN := Lib.hid (fun h1 => HF.out.trans (checkF_4 heg.symm hbz h1))
      rw [hbz] at HBD
      obtain ⟨bd, hbd⟩ : ∃ bd, bd = (bodyF at_ s).1 := ⟨_, rfl⟩
      rw [← hbd] at HBD HBS HFE0 HFN
      clear heg hh hbd hbz
      go_enter Tryd.func15, Tryd.ntmps15
      go_wp2_with fail
      (with_reducible refine HGD.out.mono ?_)
      rintro e w1 ⟨rfl, hb⟩
      have HB1 := Lib.hid hb
      clear hb k0 k1 k2 c0 c1 c2 c3 c4
      obtain ⟨k0, k1, k2⟩ := key_cells (HG0.out _ HB1.out)
      obtain ⟨c0, c1, c2, c3, c4, _, _⟩ := stp_cells (HG1.out _ HB1.out)
      go_wp2_with fail
      (with_reducible refine (HBD.out w1).mono ?_)
      rintro e w2 ⟨rfl, hb⟩
      have HB2 := Lib.hid (HB1.out.trans (hb.mono HB1.out.size))
      clear hb k0 k1 k2 c0 c1 c2 c3 c4
      obtain ⟨k0, k1, k2⟩ := key_cells (HG0.out _ HB2.out)
      obtain ⟨c0, c1, c2, c3, c4, _, _⟩ := stp_cells (HG1.out _ HB2.out)
      go_wp2_with fail
      have HFE := HFE0
      clear k0 k1 k2 c0 c1 c2 c3 c4
      go_loopw [6, 29] (fun r i wr => ∃ k : Nat, k ≤ s.who.length ∧ r = .int .i64 0 ∧ i = .int .i64 (k : Int) ∧ Hid (∀ j, j < k → rowC sealF sg bd s j = 0) ∧ Hid (Below W.heap.size W wr)) (fun _ i _ => s.who.length - (intOf i).toNat)
      case atStart => exact ⟨0, Nat.zero_le _, rfl, rfl, Lib.hid fun j hj => absurd hj (Nat.not_lt_zero _), HB2⟩
      case round =>
        clear HB1 HB2
        obtain ⟨k, hk, rfl, rfl, HALL, HB9⟩ := hrel
        obtain ⟨k0, k1, k2⟩ := key_cells (HG0.out _ HB9.out)
        obtain ⟨c0, c1, c2, c3, c4, _, _⟩ := stp_cells (HG1.out _ HB9.out)
        by_cases hl : k < s.who.length
        · have hkl : decide ((k : Int) < (s.who.length : Int)) = true := decide_eq_true (by omega)
          have hki : (k : Int) < (s.who.length : Int) := by omega
          have hk0 : (0 : Int) ≤ (k : Int) := by omega
          obtain ⟨bw, ow, hae, hbw, hcw⟩ := rdI_at (HWR.out _ HB9.out) (by omega)
          subst hae
          have d0 := hcw k hl
          obtain ⟨n, hn8, hn⟩ := HWN.out k hl
          rw [hn] at d0
          have HN := Lib.hid hn
          have HKL := Lib.hid hl
          clear hbw hcw hn
          by_cases hg : sg.length ≤ n
          · have gb : decide (sg.length ≤ n) = true := decide_eq_true hg
            have HBAD := Lib.hid (show rowC sealF sg bd s k = 13 by unfold rowC; rw [HN.out, if_pos (.inl (by omega))])
            clear hg
            go_wp2_with fail
            refine Lone.wp_region_order [(0, false), (1, false), (2, false), (3, false), (4, false), (5, false), (6, false), (7, false), (8, false), (9, false), (10, false), (11, false), (13, false), (14, false), (15, false), (16, false), (17, false), (12, true), (18, false), (19, false)] (fun w' => w'.cell? ⟨w.heap.size, 0, none⟩ = some (.slice ag sg.length cg)) (by kernel_rfl) (by kernel_rfl) rfl (by kernel_rfl) (by intro _ _ d _ _ h; cases d <;> exact h) (k0) ?_; simp only [List.map_cons, List.map_nil, List.getElem?_toArray, List.getElem?_cons_zero, List.getElem?_cons_succ, Option.getD_some]
            repeat (first | (refine Lone.ro_q (by rfl) (v := ?_) ?_ ?_; rotate_left; (focus (intro w' hSw; (try dsimp only at hSw); go_simp; try with_reducible rfl)); simp only [Act.put, List.setIfInBounds_toArray, List.set_cons_zero, List.set_cons_succ]) | (refine Lone.ro_skip (by rfl) ?_; simp only [Act.put, List.setIfInBounds_toArray, List.set_cons_zero, List.set_cons_succ]))
            refine Lone.ro_skipL (by rfl) (by assumption) ?_; simp only [Act.put, List.setIfInBounds_toArray, List.set_cons_zero, List.set_cons_succ]
            repeat (first | (refine Lone.ro_q (by rfl) (v := ?_) ?_ ?_; rotate_left; (focus (intro w' hSw; (try dsimp only at hSw); go_simp; try with_reducible rfl)); simp only [Act.put, List.setIfInBounds_toArray, List.set_cons_zero, List.set_cons_succ]) | (refine Lone.ro_skip (by rfl) ?_; simp only [Act.put, List.setIfInBounds_toArray, List.set_cons_zero, List.set_cons_succ]))
            (refine Lone.ro_nil ?_; go_wp2_with fail)
            have HOK := HBAD
            have hF := HFE.out k HKL.out HALL.out HBAD.out
            subst hF
            go_ret
            exact ⟨rfl, HBW.out.trans (HB9.out.drew.mono HBW.out.size)⟩
          · have gb : decide (sg.length ≤ n) = false := decide_eq_false hg
            have gi : (n : Int) < (sg.length : Int) := by omega
            have gn0 : (0 : Int) ≤ (n : Int) := by omega
            have HGN := Lib.hid (show n < sg.length by omega)
            obtain ⟨bg, og, hag, hbg, hcg⟩ := rdS_at' (HGR.out _ HB9.out.drew) (by omega)
            subst hag
            obtain ⟨bs, os, haf, hbs, hcs⟩ := rdS_at' (HSR.out _ HB9.out.drew) (by have := HLE.out; omega)
            subst haf
            have d1 := hcg n HGN.out
            have d2 := hcs k (by have := HLE.out; omega)
            have hks : (k : Int) < (s.seals.length : Int) := by have := HLE.out; omega
            obtain ⟨y, hy⟩ : ∃ y, y = sg.getD n noB := ⟨_, rfl⟩
            obtain ⟨q, hq⟩ : ∃ q, q = s.seals.getD k noB := ⟨_, rfl⟩
            rw [← hy] at d1
            rw [← hq] at d2
            have HY := Lib.hid hy
            have HQ := Lib.hid hq
            have HYS := Lib.hid (show y.size ≤ 140737488355328 by rw [hy]; exact HKS.out n HGN.out)
            clear hy hq hcg hcs hbg hbs hg
            have q0 := k0
            have q4 := c4
            have HRW := Lib.hid (show sealF y bd = q → rowC sealF sg bd s k = 0 from fun e => rowC_z HN.out HGN.out (by rw [← HY.out, ← HQ.out]; exact e))
            have HRX := Lib.hid (show sealF y bd ≠ q → rowC sealF sg bd s k = 13 from fun e => rowC_t HN.out (by rw [← HY.out, ← HQ.out]; exact e))
            go_wp2_with fail
            refine Lone.wp_region_order [(0, false), (1, false), (2, false), (3, false), (4, false), (5, false), (6, false), (7, false), (8, false), (9, false), (10, false), (11, false), (13, false), (14, false), (15, false), (16, false), (17, false), (12, true), (18, false), (19, false)] (fun w' => w'.cell? ⟨w.heap.size, 0, none⟩ = some (.slice (some ⟨bg, og, none⟩) sg.length cg) ∧ w'.cell? ⟨w.heap.size + 1, 4, none⟩ = some (.slice (some ⟨bs, os, none⟩) s.seals.length cf) ∧ w'.cell? ⟨bg, og + n, none⟩ = some (.string y) ∧ w'.cell? ⟨bs, os + k, none⟩ = some (.string q)) (by kernel_rfl) (by kernel_rfl) rfl (by kernel_rfl) (by intro _ _ d _ _ h; cases d <;> exact h) (⟨k0, c4, d1, d2⟩) ?_; simp only [List.map_cons, List.map_nil, List.getElem?_toArray, List.getElem?_cons_zero, List.getElem?_cons_succ, Option.getD_some]
            repeat (first | (refine Lone.ro_q (by rfl) (v := ?_) ?_ ?_; rotate_left; (focus (intro w' hSw; (try dsimp only at hSw); go_simp; try with_reducible rfl)); simp only [Act.put, List.setIfInBounds_toArray, List.set_cons_zero, List.set_cons_succ]) | (refine Lone.ro_skip (by rfl) ?_; simp only [Act.put, List.setIfInBounds_toArray, List.set_cons_zero, List.set_cons_succ]))
            (refine Lone.ro_loud (by rfl) (fun K hK => ?_); go_simp)
            (with_reducible refine (seal_any y bd _ HBS.out HYS.out (HT.out.below (HBW.out.trans (HB9.out.drew.mono HBW.out.size)))).mono ?_)
            rintro e w5 ⟨rfl, hb⟩
            have e1 := (hb.cell (p := ⟨bg, og + n, none⟩) (block_lt_of_cell d1)).trans d1
            have e2 := (hb.cell (p := ⟨bs, os + k, none⟩) (block_lt_of_cell d2)).trans d2
            have HB5 := Lib.hid (HB9.out.drew.trans (hb.mono HB9.out.drew.size))
            clear hb
            have e3 := (key_cells (HG0.out _ HB5.out)).1
            have e4 := (stp_cells (HG1.out _ HB5.out)).2.2.2.2.1
            (refine hK.out _ _ (fun w' => w'.cell? ⟨w.heap.size, 0, none⟩ = some (.slice (some ⟨bg, og, none⟩) sg.length cg) ∧ w'.cell? ⟨w.heap.size + 1, 4, none⟩ = some (.slice (some ⟨bs, os, none⟩) s.seals.length cf) ∧ w'.cell? ⟨bg, og + n, none⟩ = some (.string y) ∧ w'.cell? ⟨bs, os + k, none⟩ = some (.string q)) (.inl fun _ h => h) (⟨e3, e4, e1, e2⟩) ?_; clear hK K; try simp only [Act.put, List.setIfInBounds_toArray, List.set_cons_zero, List.set_cons_succ])
            clear e1 e2 e3 e4 d1 d2 q0 q4 k0 k1 k2 c0 c1 c2 c3 c4
            by_cases hs : sealF y bd = q
            · have HOK := Lib.hid (HRW.out hs)
              have sb : ((sealF y bd).toList == q.toList) = true := by rw [hs]; exact beq_self_eq_true _
              clear hs
              repeat (first | (refine Lone.ro_q (by rfl) (v := ?_) ?_ ?_; rotate_left; (focus (intro w' hSw; (try dsimp only at hSw); go_simp; try with_reducible rfl)); simp only [Act.put, List.setIfInBounds_toArray, List.set_cons_zero, List.set_cons_succ]) | (refine Lone.ro_skip (by rfl) ?_; simp only [Act.put, List.setIfInBounds_toArray, List.set_cons_zero, List.set_cons_succ]))
              (refine Lone.ro_nil ?_; go_wp2_with fail)
              have hw1 : wrap64 ((k : Int) + 1) = (k : Int) + 1 := IntWalk.wrap64_in _ (by have := HKL.out; have := HLE.out; omega)
              go_wp2_with fail
              go_roundw
              case rel => exact ⟨k + 1, by have := HKL.out; omega, rfl, by first | rfl | (rw [hw1]; rfl), Lib.hid fun j hj => by (by_cases hjk : j = k; rw [hjk]; exact HOK.out; exact HALL.out j (by omega)), HB5⟩
              case measure => exact meas_step _ (by first | rfl | exact hw1) HKL.out
            · have HOK := Lib.hid (HRX.out hs)
              have sb : ((sealF y bd).toList == q.toList) = false := beq_eq_false_iff_ne.2 (fun e => hs (toList_inj e))
              clear hs
              repeat (first | (refine Lone.ro_q (by rfl) (v := ?_) ?_ ?_; rotate_left; (focus (intro w' hSw; (try dsimp only at hSw); go_simp; try with_reducible rfl)); simp only [Act.put, List.setIfInBounds_toArray, List.set_cons_zero, List.set_cons_succ]) | (refine Lone.ro_skip (by rfl) ?_; simp only [Act.put, List.setIfInBounds_toArray, List.set_cons_zero, List.set_cons_succ]))
              (refine Lone.ro_nil ?_; go_wp2_with fail)
              have hF := HFE.out k HKL.out HALL.out HOK.out
              subst hF
              go_ret
              exact ⟨rfl, HBW.out.trans (HB5.out.mono HBW.out.size)⟩
        · have hkn : k = s.who.length := by omega
          have hkl : decide ((k : Int) < (s.who.length : Int)) = false := decide_eq_false (by omega)
          have hF := HFN.out (fun j hj => HALL.out j (by omega))
          by_cases hnd : (s.who.length : Int) < need
          · have nb : decide ((s.who.length : Int) < need) = true := decide_eq_true hnd
            rw [if_pos hnd] at hF
            subst hF
            clear hnd
            go_wp2_with fail
            go_ret
            exact ⟨rfl, HBW.out.trans (HB9.out.mono HBW.out.size)⟩
          · have nb : decide ((s.who.length : Int) < need) = false := decide_eq_false hnd
            rw [if_neg hnd] at hF
            subst hF
            clear hnd
            go_wp2_with fail
            go_ret
            exact ⟨rfl, HBW.out.trans (HB9.out.mono HBW.out.size)⟩
    · have hF := HF.out.trans (checkF_2 HG0S.out hbz)
      obtain ⟨eb, heb⟩ : ∃ eb, eb = (bodyF at_ s).2 := ⟨_, rfl⟩
      obtain ⟨bd, hbd⟩ : ∃ bd, bd = (bodyF at_ s).1 := ⟨_, rfl⟩
      rw [← heb] at hF HBD hbz
      rw [← hbd] at HBD
      subst hF
      have n1 : (F == 0) = false := beq_eq_false_iff_ne.2 hbz
      have n2 : (F != 0) = true := by rw [bne, n1]; rfl
      clear heb hbd hbz hh
      go_enter Tryd.func15, Tryd.ntmps15
      go_wp2_with fail
      (with_reducible refine HGD.out.mono ?_)
      rintro e w1 ⟨rfl, hb⟩
      have HB1 := Lib.hid hb
      clear hb k0 k1 k2 c0 c1 c2 c3 c4
      obtain ⟨k0, k1, k2⟩ := key_cells (HG0.out _ HB1.out)
      obtain ⟨c0, c1, c2, c3, c4, _, _⟩ := stp_cells (HG1.out _ HB1.out)
      go_wp2_with fail
      (with_reducible refine (HBD.out w1).mono ?_)
      rintro e w2 ⟨rfl, hb⟩
      have HB2 := Lib.hid (HB1.out.trans (hb.mono HB1.out.size))
      clear hb k0 k1 k2 c0 c1 c2 c3 c4
      obtain ⟨k0, k1, k2⟩ := key_cells (HG0.out _ HB2.out)
      obtain ⟨c0, c1, c2, c3, c4, _, _⟩ := stp_cells (HG1.out _ HB2.out)
      go_wp2_with fail
      go_ret
      exact ⟨rfl, HBW.out.trans (HB2.out.mono HBW.out.size)⟩
  · have hF := HF.out.trans (checkF_1 (fun e => hgz (heg.trans e)))
    rw [← heg] at hF
    subst hF
    have n1 : (F == 0) = false := beq_eq_false_iff_ne.2 hgz
    have n2 : (F != 0) = true := by rw [bne, n1]; rfl
    clear heg hgz
    go_enter Tryd.func15, Tryd.ntmps15
    go_wp2_with fail
    (with_reducible refine HGD.out.mono ?_)
    rintro e w1 ⟨rfl, hb⟩
    have HB1 := Lib.hid hb
    clear hb k0 k1 k2 c0 c1 c2 c3 c4
    obtain ⟨k0, k1, k2⟩ := key_cells (HG0.out _ HB1.out)
    obtain ⟨c0, c1, c2, c3, c4, _, _⟩ := stp_cells (HG1.out _ HB1.out)
    go_wp2_with fail
    go_ret
    exact ⟨rfl, HBW.out.trans (HB1.out.mono HBW.out.size)⟩
end Go.Proofs.YtinhjnbgblieeaaDoor
/-! Step5 -/
namespace Go.Proofs.YtinhjnbgblieeaaDoor
open Go.RowKit
set_option linter.unusedVariables false
set_option linter.unusedSimpArgs false

theorem stp_ext {a b : Stp} (h0 : a.ref = b.ref) (h1 : a.old = b.old) (h2 : a.new = b.new) (h3 : a.who = b.who) (h4 : a.seals = b.seals) : a = b := by
  cases a; cases b
  simp only at h0 h1 h2 h3 h4
  subst h0 h1 h2 h3 h4
  rfl
theorem eq_of_getI {ss tt : List Int} (hl : ss.length = tt.length) (h : ∀ j, j < ss.length → ss.getD j 0 = tt.getD j 0) : ss = tt := by
  apply List.ext_getElem hl
  intro i h1 h2
  have := h i h1
  rwa [List.getD, List.getD, List.getElem?_eq_getElem h1, List.getElem?_eq_getElem h2] at this
set_option maxRecDepth 100000 in
set_option maxHeartbeats 3200000 in
theorem sameStep_any (a b : Stp) (va ua vb ub : Value) (w : World) (h1 : rdI w va a.who) (h2 : rdS w ua a.seals) (h3 : rdI w vb b.who) (h4 : rdS w ub b.seals) (r : Bool) (hr : r = true ↔ a = b) :
    Calls Tryd.prog 13 #[.agg #[.string a.ref, .string a.old, .string a.new, va, ua], .agg #[.string b.ref, .string b.old, .string b.new, vb, ub]] w fun e w' => e = .returned (.bool r) ∧ Below w.heap.size w w' := by
  have HR := Lib.hid hr
  have HWN := Lib.hid (rdI_len h1)
  obtain ⟨aa, ca, rfl⟩ := rd_form h1
  obtain ⟨xa, ya, rfl⟩ := rd_form h2
  obtain ⟨ab, cb, rfl⟩ := rd_form h3
  obtain ⟨xb, yb, rfl⟩ := rd_form h4
  obtain ⟨W, hW⟩ : ∃ W, (w.alloc (.cells #[.string a.ref, .string a.old, .string a.new, .slice aa a.who.length ca, .slice xa a.seals.length ya] 25)).alloc (.cells #[.string b.ref, .string b.old, .string b.new, .slice ab b.who.length cb, .slice xb b.seals.length yb] 25) = W := ⟨_, rfl⟩
  have hbW : Below w.heap.size w W := by rw [← hW]; exact ((Below.refl _ _).alloc (Nat.le_refl _) _).alloc (by simp) _
  have g0 : W.heap[w.heap.size]? = some (.cells #[.string a.ref, .string a.old, .string a.new, .slice aa a.who.length ca, .slice xa a.seals.length ya] 25 (0, 0)) := by rw [← hW]; exact (Below.heap_alloc _ _ _ (by simp)).trans (heap_alloc_new _ _)
  have g1 : W.heap[w.heap.size + 1]? = some (.cells #[.string b.ref, .string b.old, .string b.new, .slice ab b.who.length cb, .slice xb b.seals.length yb] 25 (0, 0)) := by rw [← hW]; have := heap_alloc_new (w.alloc (.cells #[.string a.ref, .string a.old, .string a.new, .slice aa a.who.length ca, .slice xa a.seals.length ya] 25)) (.cells #[.string b.ref, .string b.old, .string b.new, .slice ab b.who.length cb, .slice xb b.seals.length yb] 25); simpa using this
  have HBW := Lib.hid hbW
  have HG0 := Lib.hid (fun w' (h : Below W.heap.size W w') => blk_below g0 h)
  have HG1 := Lib.hid (fun w' (h : Below W.heap.size W w') => blk_below g1 h)
  have HWA := Lib.hid (fun wr (h : Below W.heap.size W wr) => h1.below (HBW.out.trans (h.mono HBW.out.size)))
  have HWB := Lib.hid (fun wr (h : Below W.heap.size W wr) => h3.below (HBW.out.trans (h.mono HBW.out.size)))
  have HSA := Lib.hid (fun wr (h : Below W.heap.size W wr) => h2.below (HBW.out.trans (h.mono HBW.out.size)))
  have HSB := Lib.hid (fun wr (h : Below W.heap.size W wr) => h4.below (HBW.out.trans (h.mono HBW.out.size)))
  obtain ⟨c0, c1, c2, c3, c4, _, _⟩ := stp_cells g0
  obtain ⟨d0, d1, d2, d3, d4, _, _⟩ := stp_cells g1
  clear hbW g0 g1 h1 h2 h3 h4 hr
  go_enter Tryd.func13, Tryd.ntmps13
  by_cases hlen : a.who.length = b.who.length
  · have n1 : ((a.who.length : Int) == (b.who.length : Int)) = true := beq_iff_eq.2 (by omega)
    have n2 : ((a.who.length : Int) != (b.who.length : Int)) = false := by rw [bne, n1]; rfl
    have HLEN := Lib.hid hlen
    clear hlen
    go_wp2_with fail
    have HB0 := Lib.hid (Below.refl W.heap.size W)
    clear c0 c1 c2 c3 c4 d0 d1 d2 d3 d4
    go_loopw [4, 5] (fun v i wr => ∃ k : Nat, k ≤ a.who.length ∧ v = .bool false ∧ i = .int .i64 (k : Int) ∧ Hid (∀ j, j < k → a.who.getD j 0 = b.who.getD j 0) ∧ Hid (Below W.heap.size W wr)) (fun _ i _ => a.who.length - (intOf i).toNat)
    case atStart => exact ⟨0, Nat.zero_le _, rfl, rfl, Lib.hid fun j hj => absurd hj (Nat.not_lt_zero _), HB0⟩
    case round =>
      clear HB0
      obtain ⟨k, hk, rfl, rfl, HALL, HB9⟩ := hrel
      obtain ⟨c0, c1, c2, c3, c4, _, _⟩ := stp_cells (HG0.out _ HB9.out)
      obtain ⟨d0, d1, d2, d3, d4, _, _⟩ := stp_cells (HG1.out _ HB9.out)
      by_cases hl : k < a.who.length
      · have hkl : decide ((k : Int) < (a.who.length : Int)) = true := decide_eq_true (by omega)
        have hki : (k : Int) < (a.who.length : Int) := by omega
        have hki2 : (k : Int) < (b.who.length : Int) := by have := HLEN.out; omega
        have hk0 : (0 : Int) ≤ (k : Int) := by omega
        obtain ⟨b1, o1, h1, _, hc1⟩ := rdI_at (HWA.out _ HB9.out.drew) (by omega)
        subst h1
        obtain ⟨b2, o2, h2, _, hc2⟩ := rdI_at (HWB.out _ HB9.out.drew) (by have := HLEN.out; omega)
        subst h2
        have e1 := hc1 k hl
        have e2 := hc2 k (by have := HLEN.out; omega)
        obtain ⟨x, hx⟩ : ∃ x, x = a.who.getD k 0 := ⟨_, rfl⟩
        obtain ⟨y, hy⟩ : ∃ y, y = b.who.getD k 0 := ⟨_, rfl⟩
        rw [← hx] at e1
        rw [← hy] at e2
        have HX := Lib.hid hx
        have HY := Lib.hid hy
        have HKL := Lib.hid hl
        clear hc1 hc2 hx hy
        by_cases hxy : x = y
        · have q1 : (x == y) = true := beq_iff_eq.2 hxy
          have q2 : (x != y) = false := by rw [bne, q1]; rfl
          have HXY := Lib.hid (hxy)
          clear hxy
          have hw1 : wrap64 ((k : Int) + 1) = (k : Int) + 1 := IntWalk.wrap64_in _ (by have := HWN.out; have := HKL.out; omega)
          go_wp2_with fail
          refine Lone.wp_region_order [(0, false), (1, false), (2, false), (3, false), (4, false), (5, false), (6, false), (7, false), (8, false), (9, false), (10, false)] (fun w' => w'.cell? ⟨w.heap.size, 3, none⟩ = some (.slice (some ⟨b1, o1, none⟩) a.who.length ca) ∧ w'.cell? ⟨w.heap.size + 1, 3, none⟩ = some (.slice (some ⟨b2, o2, none⟩) b.who.length cb) ∧ w'.cell? ⟨b1, o1 + k, none⟩ = some (.int .i64 x) ∧ w'.cell? ⟨b2, o2 + k, none⟩ = some (.int .i64 y)) (by kernel_rfl) (by kernel_rfl) rfl (by kernel_rfl) (by intro _ _ d _ _ h; cases d <;> exact h) (⟨c3, d3, e1, e2⟩) ?_; simp only [List.map_cons, List.map_nil, List.getElem?_toArray, List.getElem?_cons_zero, List.getElem?_cons_succ, Option.getD_some]
          repeat (first | (refine Lone.ro_q (by rfl) (v := ?_) ?_ ?_; rotate_left; (focus (intro w' hSw; (try dsimp only at hSw); go_simp; try with_reducible rfl)); simp only [Act.put, List.setIfInBounds_toArray, List.set_cons_zero, List.set_cons_succ]) | (refine Lone.ro_skip (by rfl) ?_; simp only [Act.put, List.setIfInBounds_toArray, List.set_cons_zero, List.set_cons_succ]))
          (refine Lone.ro_nil ?_; go_wp2_with fail)
          go_wp2_with fail
          go_roundw
          case rel => exact ⟨k + 1, by have := HKL.out; omega, rfl, by first | rfl | (rw [hw1]; rfl), Lib.hid fun j hj => by (by_cases hjk : j = k; rw [hjk, ← HX.out, ← HY.out]; exact HXY.out; exact HALL.out j (by omega)), Lib.hid HB9.out.drew⟩
          case measure => exact meas_step _ (by first | rfl | exact hw1) HKL.out
        · have q1 : (x == y) = false := beq_eq_false_iff_ne.2 hxy
          have q2 : (x != y) = true := by rw [bne, q1]; rfl
          obtain rfl : r = false := Bool.eq_false_iff.2 (fun e => hxy (by rw [HX.out, HY.out, HR.out.1 e]))
          clear hxy
          go_wp2_with fail
          refine Lone.wp_region_order [(0, false), (1, false), (2, false), (3, false), (4, false), (5, false), (6, false), (7, false), (8, false), (9, false), (10, false)] (fun w' => w'.cell? ⟨w.heap.size, 3, none⟩ = some (.slice (some ⟨b1, o1, none⟩) a.who.length ca) ∧ w'.cell? ⟨w.heap.size + 1, 3, none⟩ = some (.slice (some ⟨b2, o2, none⟩) b.who.length cb) ∧ w'.cell? ⟨b1, o1 + k, none⟩ = some (.int .i64 x) ∧ w'.cell? ⟨b2, o2 + k, none⟩ = some (.int .i64 y)) (by kernel_rfl) (by kernel_rfl) rfl (by kernel_rfl) (by intro _ _ d _ _ h; cases d <;> exact h) (⟨c3, d3, e1, e2⟩) ?_; simp only [List.map_cons, List.map_nil, List.getElem?_toArray, List.getElem?_cons_zero, List.getElem?_cons_succ, Option.getD_some]
          repeat (first | (refine Lone.ro_q (by rfl) (v := ?_) ?_ ?_; rotate_left; (focus (intro w' hSw; (try dsimp only at hSw); go_simp; try with_reducible rfl)); simp only [Act.put, List.setIfInBounds_toArray, List.set_cons_zero, List.set_cons_succ]) | (refine Lone.ro_skip (by rfl) ?_; simp only [Act.put, List.setIfInBounds_toArray, List.set_cons_zero, List.set_cons_succ]))
          (refine Lone.ro_nil ?_; go_wp2_with fail)
          go_wp2_with fail
          go_ret
          exact ⟨rfl, HBW.out.trans (HB9.out.drew.mono HBW.out.size)⟩
      · have hkn : k = a.who.length := by omega
        have hkl : decide ((k : Int) < (a.who.length : Int)) = false := decide_eq_false (by omega)
        have HWE := Lib.hid (show a.who = b.who from eq_of_getI HLEN.out (fun j hj => HALL.out j (by omega)))
        by_cases hq0 : a.ref = b.ref
        · have s0 : (a.ref.toList == b.ref.toList) = true := by rw [hq0]; exact beq_self_eq_true _
          by_cases hq1 : a.old = b.old
          · have s1 : (a.old.toList == b.old.toList) = true := by rw [hq1]; exact beq_self_eq_true _
            by_cases hq2 : a.new = b.new
            · have s2 : (a.new.toList == b.new.toList) = true := by rw [hq2]; exact beq_self_eq_true _
              go_wp2_with fail
              (with_reducible refine (same_any a.seals b.seals _ _ _ (HSA.out _ HB9.out) (HSB.out _ HB9.out)).mono ?_)
              rintro e w5 ⟨rfl, hb⟩
              have HB5 := Lib.hid (HB9.out.trans (hb.mono HB9.out.size))
              clear hb
              by_cases hq : a.seals = b.seals
              · rw [decide_eq_true hq]
                obtain rfl : r = true := HR.out.2 (stp_ext hq0 hq1 hq2 HWE.out hq)
                go_wp2_with fail
                go_ret
                exact ⟨rfl, HBW.out.trans (HB5.out.mono HBW.out.size)⟩
              · rw [decide_eq_false hq]
                obtain rfl : r = false := Bool.eq_false_iff.2 (fun e => hq (congrArg Stp.seals (HR.out.1 e)))
                go_wp2_with fail
                go_ret
                exact ⟨rfl, HBW.out.trans (HB5.out.mono HBW.out.size)⟩
            · have s2 : (a.new.toList == b.new.toList) = false := beq_eq_false_iff_ne.2 (fun e => hq2 (toList_inj e))
              obtain rfl : r = false := Bool.eq_false_iff.2 (fun e => hq2 (congrArg Stp.new (HR.out.1 e)))
              clear hq2
              go_wp2_with fail
              go_ret
              exact ⟨rfl, HBW.out.trans (HB9.out.mono HBW.out.size)⟩
          · have s1 : (a.old.toList == b.old.toList) = false := beq_eq_false_iff_ne.2 (fun e => hq1 (toList_inj e))
            obtain rfl : r = false := Bool.eq_false_iff.2 (fun e => hq1 (congrArg Stp.old (HR.out.1 e)))
            clear hq1
            go_wp2_with fail
            go_ret
            exact ⟨rfl, HBW.out.trans (HB9.out.mono HBW.out.size)⟩
        · have s0 : (a.ref.toList == b.ref.toList) = false := beq_eq_false_iff_ne.2 (fun e => hq0 (toList_inj e))
          obtain rfl : r = false := Bool.eq_false_iff.2 (fun e => hq0 (congrArg Stp.ref (HR.out.1 e)))
          clear hq0
          go_wp2_with fail
          go_ret
          exact ⟨rfl, HBW.out.trans (HB9.out.mono HBW.out.size)⟩
  · have n1 : ((a.who.length : Int) == (b.who.length : Int)) = false := beq_eq_false_iff_ne.2 (by omega)
    have n2 : ((a.who.length : Int) != (b.who.length : Int)) = true := by rw [bne, n1]; rfl
    obtain rfl : r = false := Bool.eq_false_iff.2 (fun e => hlen (by rw [HR.out.1 e]))
    clear hlen
    go_wp2_with fail
    go_ret
    exact ⟨rfl, HBW.out⟩
end Go.Proofs.YtinhjnbgblieeaaDoor
/-! Step6 -/
namespace Go.Proofs.YtinhjnbgblieeaaDoor
open Go.RowKit
set_option linter.unusedVariables false
set_option linter.unusedSimpArgs false

theorem own_store {w w' : World} {base g : Nat} {e t : TypeId} {size : Nat} {v : Value} {n : Nat} {xs : List Value} {cs : Array Value} {fr : Nat × Nat} (h : w.ownsRow base e size v n xs) (hu : Upd (· = g) w w') (hg : w.heap[g]? = some (.cells cs t fr)) (hne : e ≠ t) : w'.ownsRow base e size v n xs := by
  refine ⟨h.1, ?_⟩
  rcases h.2 with h | ⟨b, cap, cur, rfl, hbg, hb, r⟩
  · exact .inl h
  · refine .inr ⟨b, cap, cur, rfl, hbg, ?_, r⟩
    have hn : b ≠ g := fun k => by subst k; rw [hg] at hb; injection hb with hb; injection hb with h1 h2; exact hne h2.symm
    rw [hu.block b (Array.getElem?_eq_some_iff.1 hb).1 hn]
    exact hb
/-- A step in a block of its own, its rows in memory from base on. -/
structure StpOwn (w : World) (base g : Nat) (s : Stp) (vw vs : Value) : Prop where
  blk : w.heap[g]? = some (.cells #[.string s.ref, .string s.old, .string s.new, vw, vs] 25 (0, 0))
  ow : w.ownsRow base 3 1 vw s.who.length (ivs s.who)
  os : w.ownsRow base 9 1 vs s.seals.length (svs s.seals)
theorem StpOwn.below {w w' : World} {base g : Nat} {s : Stp} {vw vs : Value} (h : StpOwn w base g s vw vs) (hb : Below w.heap.size w w') : StpOwn w' base g s vw vs :=
  ⟨blk_below h.blk hb, owns_below h.ow hb, owns_below h.os hb⟩
theorem StpOwn.upd {w w' : World} {base g k : Nat} {s : Stp} {vw vs : Value} {cs : Array Value} {fr : Nat × Nat} (h : StpOwn w base g s vw vs) (hu : Upd (· = k) w w') (hk : w.heap[k]? = some (.cells cs 25 fr)) (hn : g ≠ k) : StpOwn w' base g s vw vs :=
  ⟨blk_upd h.blk hu hn, own_store h.ow hu hk (by decide), own_store h.os hu hk (by decide)⟩
theorem rdS_two {w : World} {n : Nat} {x y : ByteArray} (h : w.heap[n]? = some (.cells #[.string x, .string y] 9 (0, 0))) : rdS w (.slice (some ⟨n, 0, none⟩) 2 2) [x, y] := by
  refine ⟨rfl, some ⟨n, 0, none⟩, 2, rfl, Nat.le_refl _, by decide, (fun h => by cases h), fun b hb j u hu => ?_⟩
  obtain rfl := Option.some.inj hb
  have hj : j < 2 := by have := (List.getElem?_eq_some_iff.1 hu).1; simpa [svs] using this
  match j, hj with
  | 0, _ =>
    have : u = .string x := by simpa [svs] using hu.symm
    subst this
    simp [World.cell?, Addr.add, h]
  | 1, _ =>
    have : u = .string y := by simpa [svs] using hu.symm
    subst this
    simp [World.cell?, Addr.add, h]
def stp0 : Stp := ⟨⟨#[97]⟩, ⟨#[]⟩, ⟨#[48, 49, 50, 51, 52, 53, 54, 55, 56, 57, 97, 98, 99, 100, 101, 102, 48, 49, 50, 51, 52, 53, 54, 55, 56, 57, 97, 98, 99, 100, 101, 102]⟩, [], []⟩
def bdy0 : ByteArray := bodyB 0 stp0
def stp1 : Stp := ⟨⟨#[97]⟩, ⟨#[]⟩, ⟨#[48, 49, 50, 51, 52, 53, 54, 55, 56, 57, 97, 98, 99, 100, 101, 102, 48, 49, 50, 51, 52, 53, 54, 55, 56, 57, 97, 98, 99, 100, 101, 102]⟩, [1], [sealF ⟨#[107]⟩ bdy0]⟩
theorem head0 : headOk stp0 = true := by kernel_rfl
theorem goodP_nil : GoodP [] := ⟨List.Pairwise.nil, by simp, by simp⟩
theorem sign0 : signF sealF stp0 0 1 ⟨#[107]⟩ = (stp1, 0) :=
  sign_good sealF head0 goodP_nil ⟨#[107]⟩ (by omega) (by omega)
theorem check0 : checkF sealF [⟨#[]⟩, ⟨#[107]⟩] 1 0 stp1 = 0 := by
  have h := check_rows sealF (signers := [⟨#[]⟩, ⟨#[107]⟩]) (need := 1) (at_ := 0) head0 (P := [(1, sealF ⟨#[107]⟩ bdy0)])
    (goodP_nil.ins (p := (1, sealF ⟨#[107]⟩ bdy0)) (by decide) (sealF_size _ _) (fun _ h => by cases h)) (by omega)
    (fun p hp => by obtain rfl := List.mem_singleton.1 hp; exact ⟨by decide, rfl⟩)
  exact h
set_option maxRecDepth 100000 in
set_option maxHeartbeats 3200000 in
theorem steps_any (w : World) (ht : Tab w) : Calls Tryd.prog 12 #[] w fun e w' => e = .returned (.bool true) ∧ Below w.heap.size w w' := by
  have HT := Lib.hid ht
  clear ht
  have hsg := signStp_any stp0 0 1 ⟨#[107]⟩ (.slice none 0 0) (.slice none 0 0) w (rdI_nil _) (rdS_nil0 _) (by decide) HT.out
  rw [sign0] at hsg
  have HSG := Lib.hid hsg
  clear hsg
  go_enter Tryd.func12, Tryd.ntmps12
  go_wp2_with fail
  refine HSG.out.mono ?_
  rintro e w1 ⟨uw, us, rfl, how, hos, hb⟩
  clear HSG
  have HB1 := Lib.hid hb
  obtain ⟨aw, cw, rfl⟩ := rd_form (rdRow_of_owns (show w1.ownsRow w.heap.size 3 1 uw 1 (ivs stp1.who) from how))
  obtain ⟨as_, cs_, rfl⟩ := rd_form (rdRow_of_owns (show w1.ownsRow w.heap.size 9 1 us 1 (svs stp1.seals) from hos))
  have HOW := Lib.hid how
  have HOS := Lib.hid hos
  clear how hos hb
  have e0 : ((1 : Int) == 1) = true := rfl
  go_wp2_with (refine wpList_store_blk (by rfl) 25 (.tmp 1) (.tmp 6) rfl w1.heap.size #[.string stp1.ref, .string stp1.old, .string stp1.new, .slice aw 1 cw, .slice as_ 1 cs_] rfl rfl (old := _) (heap_alloc_new _ _) (by kernel_rfl) rfl (by simp [Value.oneCell']) ?_; intro wz hgz huz; have HBZ := Lib.hid (below_upd ((Below.refl w1.heap.size w1).alloc (Nat.le_refl _) _) huz (Nat.le_refl _) (by simp)); obtain ⟨c0, c1, c2, c3, c4, _, _⟩ := stp_cells hgz; clear huz; obtain ⟨k0, k1, k2, k3, k4, _, _⟩ := stp_cells (blk_below hgz ((Below.refl wz.heap.size wz).alloc (Nat.le_refl _) (.cells #[.string ⟨#[]⟩, .string ⟨#[107]⟩] 9))))
  have HZ := Lib.hid (fun wr (h : Below w1.heap.size w1 wr) => HB1.out.trans (h.mono HB1.out.size))
  have hba := HBZ.out.alloc HBZ.out.size (.cells #[.string ⟨#[]⟩, .string ⟨#[107]⟩] 9)
  have HBA := Lib.hid hba
  have hck := checkStp_any [⟨#[]⟩, ⟨#[107]⟩] [] 1 0 stp1 _ (.slice none 0 0) (.slice aw 1 cw) (.slice as_ 1 cs_) _ (rdS_two (heap_alloc_new wz (.cells #[.string ⟨#[]⟩, .string ⟨#[107]⟩] 9))) (rdS_nil0 _) ((rdI_owns HOW.out).below HBA.out) ((rdS_owns HOS.out).below HBA.out) (fun n hn => by match n, hn with | 0, _ => decide | 1, _ => decide) (HT.out.below (HZ.out _ HBA.out))
  rw [check0] at hck
  refine hck.mono ?_
  rintro e w5 ⟨rfl, hb⟩
  have HB5 := Lib.hid (HBA.out.trans (hb.mono HBA.out.size))
  clear hb hba hck c0 c1 c2 c3 c4 k0 k1 k2 k3 k4
  go_wp2_with fail
  go_ret
  exact ⟨rfl, HZ.out _ HB5.out⟩
end Go.Proofs.YtinhjnbgblieeaaDoor
/-! StepEnc -/
namespace Go.Proofs.YtinhjnbgblieeaaDoor
set_option linter.unusedVariables false
set_option linter.unusedSimpArgs false

def encPP (P : List (Int × ByteArray)) : List UInt8 := P.flatMap fun p => enc p.1.toNat ++ p.2.data.toList
def encS (s : Stp) : List UInt8 := encT s.ref ++ (encT s.old ++ (encT s.new ++ (enc s.who.length ++ encPP (s.who.zip s.seals))))
def encodeSF (s : Stp) : ByteArray × Int := if goodS s ≠ 0 then (noB, goodS s) else (⟨(encS s).toArray⟩, 0)
def rowsD : Nat → ByteArray × Int → List (Int × ByteArray) → List (Int × ByteArray) × (ByteArray × Int)
  | 0, st, l => (l, st)
  | n + 1, st, l => if st.2 ≠ 0 then (l, st) else rowsD n (rByt (rNum st).2 32).2 (l ++ [(((rNum st).1 : Int), (rByt (rNum st).2 32).1)])
def dA (b : ByteArray) : ByteArray × (ByteArray × Int) := rTxt (b, 0)
def dB (b : ByteArray) : ByteArray × (ByteArray × Int) := rTxt (dA b).2
def dC (b : ByteArray) : ByteArray × (ByteArray × Int) := rTxt (dB b).2
def dN (b : ByteArray) : Nat × (ByteArray × Int) := rNum (dC b).2
def dR (b : ByteArray) : List (Int × ByteArray) × (ByteArray × Int) := rowsD (dN b).1 (dN b).2 []
def dS (b : ByteArray) : Stp := ⟨(dA b).1, (dB b).1, (dC b).1, (dR b).1.map Prod.fst, (dR b).1.map Prod.snd⟩
def decodeSF (b : ByteArray) : Stp × Int :=
  if (dR b).2.2 ≠ 0 ∨ 0 < (dR b).2.1.size then (zeroStp, 2) else if goodS (dS b) ≠ 0 then (zeroStp, goodS (dS b)) else (dS b, 0)

theorem rowsD_fwd : ∀ (P : List (Int × ByteArray)) (s : ByteArray) (l : List (Int × ByteArray)) (y : List UInt8), (∀ p ∈ P, (0 ≤ p.1 ∧ p.1 < 4611686018427387904) ∧ p.2.size = 32) → s.data.toList = encPP P ++ y →
    ∃ s', rowsD P.length (s, 0) l = (l ++ P, (s', 0)) ∧ s'.data.toList = y
  | [], s, l, y, _, hs => ⟨s, by simp [rowsD], by simpa [encPP] using hs⟩
  | (n, x) :: P, s, l, y, hx, hs => by
    obtain ⟨⟨h0, h1⟩, h2⟩ := hx (n, x) (by simp)
    simp only at h0 h1 h2
    have e : s.data.toList = enc n.toNat ++ (x.data.toList ++ (encPP P ++ y)) := by rw [hs]; simp [encPP]
    obtain ⟨s2, a2, e2⟩ := rNum_fwd (by omega) e
    obtain ⟨s3, a3, e3⟩ := rByt_fwd h2 e2
    obtain ⟨s4, h4, e4⟩ := rowsD_fwd P s3 (l ++ [(n, x)]) y (fun z hz => hx z (by simp [hz])) e3
    refine ⟨s4, ?_, e4⟩
    rw [List.length_cons, rowsD, if_neg (by simp), a2]
    simp only
    rw [a3]
    simp only
    rw [show ((n.toNat : Nat) : Int) = n by omega, h4]
    simp
theorem rowsD_ok : ∀ (n : Nat) (st : ByteArray × Int) (l : List (Int × ByteArray)), (rowsD n st l).2.2 = 0 → st.2 = 0
  | 0, st, l, h0 => h0
  | n + 1, st, l, h0 => by
    apply Classical.byContradiction; intro he
    rw [rowsD, if_pos he] at h0
    exact he h0
theorem rowsD_bwd : ∀ (n : Nat) (s : ByteArray) (l : List (Int × ByteArray)), (rowsD n (s, 0) l).2.2 = 0 → ∃ l2, (rowsD n (s, 0) l).1 = l ++ l2 ∧ l2.length = n ∧ s.data.toList = encPP l2 ++ (rowsD n (s, 0) l).2.1.data.toList
  | 0, s, l, h0 => ⟨[], by simp [rowsD], rfl, by simp [encPP, rowsD]⟩
  | n + 1, s, l, h0 => by
    rw [rowsD, if_neg (by simp)] at h0 ⊢
    have k3 := rowsD_ok n _ _ h0
    have k2 := rByt_ok k3
    have b2 := rNum_bwd k2
    rw [pair0 k2] at k3 h0 ⊢
    have b3 := rByt_bwd k3
    rw [pair0 k3] at h0 ⊢
    obtain ⟨l2, e1, e2, e3⟩ := rowsD_bwd n _ _ h0
    refine ⟨(((rNum (s, 0)).1 : Int), (rByt ((rNum (s, 0)).2.1, 0) 32).1) :: l2, by rw [e1]; simp, by rw [List.length_cons, e2], ?_⟩
    rw [show encPP ((((rNum (s, 0)).1 : Int), (rByt ((rNum (s, 0)).2.1, 0) 32).1) :: l2) = enc (rNum (s, 0)).1 ++ ((rByt ((rNum (s, 0)).2.1, 0) 32).1.data.toList ++ encPP l2) by simp [encPP]]
    rw [b2.1, b3.1, e3]
    simp only [List.append_assoc]
theorem zip_stp (s : Stp) (P : List (Int × ByteArray)) : (stpOf s P).who.zip (stpOf s P).seals = P := by
  unfold stpOf
  simp only
  rw [← List.unzip_fst, ← List.unzip_snd]
  exact List.zip_unzip P
theorem dec_fwd {s : Stp} (h : goodS s = 0) {b : ByteArray} {y : List UInt8} (hb : b.data.toList = encS s ++ y) : dS b = s ∧ (dR b).2.2 = 0 ∧ (dR b).2.1.data.toList = y := by
  obtain ⟨hh, P, hP, hs⟩ := goodS_inv h
  have hz : s.who.zip s.seals = P := by rw [hs]; exact zip_stp s P
  have hl : s.who.length = P.length := by rw [hs]; simp [stpOf]
  have h1 : s.ref.size ≤ 60 := by
    have := hh; unfold headOk namedR at this; simp only [Bool.and_eq_true, decide_eq_true_eq] at this; exact this.1.1
  have h2 : s.old.size ≤ 32 := by
    have := hh; unfold headOk idOk at this; simp only [Bool.and_eq_true, Bool.or_eq_true, decide_eq_true_eq] at this; omega
  have h3 : s.new.size ≤ 32 := by
    have := hh; unfold headOk idOk at this; simp only [Bool.and_eq_true, Bool.or_eq_true, decide_eq_true_eq] at this; omega
  have hlen := hP.len
  have e0 : b.data.toList = encT s.ref ++ (encT s.old ++ (encT s.new ++ (enc P.length ++ (encPP P ++ y)))) := by rw [hb, encS, hz, hl]; simp
  obtain ⟨s1, a1, e1⟩ := rTxt_fwd (by omega) e0
  obtain ⟨s2, a2, e2⟩ := rTxt_fwd (by omega) e1
  obtain ⟨s3, a3, e3⟩ := rTxt_fwd (by omega) e2
  obtain ⟨s4, a4, e4⟩ := rNum_fwd (by omega) e3
  obtain ⟨s5, a5, e5⟩ := rowsD_fwd P s4 [] y (fun p hp => ⟨by have := hP.rng p hp; omega, hP.siz p hp⟩) e4
  have k1 : dA b = (s.ref, (s1, 0)) := a1
  have k2 : dB b = (s.old, (s2, 0)) := by unfold dB; rw [k1]; exact a2
  have k3 : dC b = (s.new, (s3, 0)) := by unfold dC; rw [k2]; exact a3
  have k4 : dN b = (P.length, (s4, 0)) := by unfold dN; rw [k3]; exact a4
  have k5 : dR b = (P, (s5, 0)) := by unfold dR; rw [k4]; simpa using a5
  refine ⟨?_, by rw [k5], by rw [k5]; exact e5⟩
  unfold dS
  rw [k1, k2, k3, k5]
  exact hs.symm
theorem decS_enc {s : Stp} (h : goodS s = 0) : decodeSF ⟨(encS s).toArray⟩ = (s, 0) := by
  obtain ⟨h1, h2, h3⟩ := dec_fwd h (b := ⟨(encS s).toArray⟩) (y := []) (by simp)
  have hz : (dR ⟨(encS s).toArray⟩).2.1.size = 0 := by rw [← toList_length, h3]; rfl
  unfold decodeSF
  rw [h1, h2, hz, h]
  simp
theorem decS_more {s : Stp} {x : ByteArray} (h : goodS s = 0) (hx : 0 < x.size) : decodeSF ((⟨(encS s).toArray⟩ : ByteArray) ++ x) = (zeroStp, 2) := by
  obtain ⟨h1, h2, h3⟩ := dec_fwd h (b := (⟨(encS s).toArray⟩ : ByteArray) ++ x) (y := x.data.toList) (by rw [toList_append])
  have hz : (dR ((⟨(encS s).toArray⟩ : ByteArray) ++ x)).2.1.size = x.size := by rw [← toList_length, h3, toList_length]
  unfold decodeSF
  rw [if_pos (.inr (by rw [hz]; exact hx))]
theorem decS_ok {b : ByteArray} (h : (decodeSF b).2 = 0) : decodeSF b = (dS b, 0) ∧ goodS (dS b) = 0 ∧ encS (dS b) = b.data.toList := by
  unfold decodeSF at h ⊢
  by_cases c : (dR b).2.2 ≠ 0 ∨ 0 < (dR b).2.1.size
  · rw [if_pos c] at h; exact absurd h (by decide)
  · rw [if_neg c] at h ⊢
    by_cases g : goodS (dS b) ≠ 0
    · rw [if_pos g] at h; exact absurd h g
    · rw [if_neg g]
      have g0 : goodS (dS b) = 0 := by simpa using g
      refine ⟨rfl, g0, ?_⟩
      have hb2 : (dR b).2.2 = 0 := by simp only [not_or] at c; simpa using c.1
      have hz : (dR b).2.1.size = 0 := by simp only [not_or] at c; omega
      have k4 : (dN b).2.2 = 0 := rowsD_ok _ _ _ hb2
      have k3 : (dC b).2.2 = 0 := rNum_ok k4
      have k2 : (dB b).2.2 = 0 := rTxt_ok k3
      have k1 : (dA b).2.2 = 0 := rTxt_ok k2
      have b1 := rTxt_bwd (s := b) k1
      have b2 := rTxt_bwd (s := (dA b).2.1) (by rw [← pair0 k1]; exact k2)
      have b3 := rTxt_bwd (s := (dB b).2.1) (by rw [← pair0 k2]; exact k3)
      have b4 := rNum_bwd (s := (dC b).2.1) (by rw [← pair0 k3]; exact k4)
      obtain ⟨l2, e1, e2, e3⟩ := rowsD_bwd (dN b).1 (dN b).2.1 [] (by rw [← pair0 k4]; exact hb2)
      rw [← pair0 k1] at b2
      rw [← pair0 k2] at b3
      rw [← pair0 k3] at b4
      rw [← pair0 k4] at e1 e3
      have e1' : (dR b).1 = l2 := e1.trans (List.nil_append _)
      have hn : (dS b).who.length = (dN b).1 := by unfold dS; simp only [List.length_map]; rw [e1', e2]
      have hzz : (dS b).who.zip (dS b).seals = (dR b).1 := zip_stp (dS b) (dR b).1
      unfold encS
      rw [hn, hzz, e1']
      have c1 : b.data.toList = encT (dS b).ref ++ (dA b).2.1.data.toList := b1.1
      have c2 : (dA b).2.1.data.toList = encT (dS b).old ++ (dB b).2.1.data.toList := b2.1
      have c3 : (dB b).2.1.data.toList = encT (dS b).new ++ (dC b).2.1.data.toList := b3.1
      have c4 : (dC b).2.1.data.toList = enc (dN b).1 ++ (dN b).2.1.data.toList := b4.1
      have c5 : (dN b).2.1.data.toList = encPP l2 ++ (dR b).2.1.data.toList := e3
      have c6 : (dR b).2.1.data.toList = [] := by apply List.eq_nil_of_length_eq_zero; rw [toList_length]; exact hz
      rw [c1, c2, c3, c4, c5, c6, List.append_nil]
theorem decS_bad {b : ByteArray} (h : (decodeSF b).2 ≠ 0) : (decodeSF b).1 = zeroStp := by
  unfold decodeSF at h ⊢
  by_cases c : (dR b).2.2 ≠ 0 ∨ 0 < (dR b).2.1.size
  · rw [if_pos c]
  · rw [if_neg c] at h ⊢
    by_cases g : goodS (dS b) ≠ 0
    · rw [if_pos g]
    · rw [if_neg g] at h; exact absurd rfl h
theorem encPP_length {P : List (Int × ByteArray)} (h : GoodP P) : (encPP P).length ≤ 8 * 41 := by
  have key : ∀ Q : List (Int × ByteArray), (∀ p ∈ Q, (0 ≤ p.1 ∧ p.1 < 8) ∧ p.2.size = 32) → (encPP Q).length ≤ Q.length * 41 := by
    intro Q
    induction Q with
    | nil => intro _; simp [encPP]
    | cons p Q ih =>
      intro hq
      have hp := hq p (by simp)
      have := ih (fun x hx => hq x (by simp [hx]))
      have e := enc_len9 p.1.toNat (by omega)
      rw [show encPP (p :: Q) = enc p.1.toNat ++ (p.2.data.toList ++ encPP Q) by simp [encPP]]
      simp only [List.length_append, List.length_cons, toList_length, hp.2]
      omega
  have := key P (fun p hp => ⟨h.rng p hp, h.siz p hp⟩)
  have := h.len
  omega
theorem encS_inj {s t : Stp} (h : goodS s = 0) (g : goodS t = 0) (e : encS s = encS t) : s = t := by
  have a := decS_enc h
  have b := decS_enc g
  rw [e, b] at a
  exact (congrArg Prod.fst a).symm
end Go.Proofs.YtinhjnbgblieeaaDoor
/-! Step7 -/
namespace Go.Proofs.YtinhjnbgblieeaaDoor
open Go.RowKit
set_option linter.unusedVariables false
set_option linter.unusedSimpArgs false

theorem encPP_step {s : Stp} {P : List (Int × ByteArray)} (hs : s = stpOf s P) (hP : GoodP P) {k : Nat} (h : k < P.length) :
    encPP (P.drop k) = enc (s.who.getD k 0).toNat ++ ((s.seals.getD k noB).data.toList ++ encPP (P.drop (k + 1))) ∧ (0 ≤ s.who.getD k 0 ∧ s.who.getD k 0 < 8) ∧ (s.seals.getD k noB).size = 32 := by
  have e1 : s.who.getD k 0 = P[k].1 := by rw [hs]; exact getD_map _ _ _ _ h
  have e2 : s.seals.getD k noB = P[k].2 := by rw [hs]; exact getD_map _ _ _ _ h
  rw [e1, e2]
  refine ⟨?_, hP.rng _ (List.getElem_mem h), hP.siz _ (List.getElem_mem h)⟩
  rw [List.drop_eq_getElem_cons h]
  rw [show encPP (P[k] :: P.drop (k + 1)) = (enc P[k].1.toNat ++ P[k].2.data.toList) ++ encPP (P.drop (k + 1)) from rfl, List.append_assoc]
theorem rdI_cl {w : World} {b off cap n : Nat} {zs : List Int} (hr : rdI w (.slice (some ⟨b, off, none⟩) zs.length cap) zs) (h : n < zs.length) : w.cell? ⟨b, off + n, none⟩ = some (.int .i64 (zs.getD n 0)) := by
  obtain ⟨b', o', h1, _, hc⟩ := rdI_at hr (by omega)
  simp only [Option.some.injEq, Addr.mk.injEq, and_true] at h1
  obtain ⟨rfl, rfl⟩ := h1
  exact hc n h
theorem rdS_cl {w : World} {b off cap n : Nat} {zs : List ByteArray} (hr : rdS w (.slice (some ⟨b, off, none⟩) zs.length cap) zs) (h : n < zs.length) : w.cell? ⟨b, off + n, none⟩ = some (.string (zs.getD n noB)) := by
  obtain ⟨b', o', h1, _, hc⟩ := rdS_at' hr (by omega)
  simp only [Option.some.injEq, Addr.mk.injEq, and_true] at h1
  obtain ⟨rfl, rfl⟩ := h1
  exact hc n h
theorem encS_length {s : Stp} (h : goodS s = 0) : (encS s).length ≤ 600 := by
  obtain ⟨hh, P, hP, hs⟩ := goodS_inv h
  obtain ⟨h1, h2, h3⟩ := head_sizes hh
  have hz : s.who.zip s.seals = P := by rw [hs]; exact zip_stp s P
  have hl : s.who.length = P.length := by rw [hs]; simp [stpOf]
  have e0 := hP.len
  have e1 := enc9 (n := s.who.length) (by omega)
  have e2 := enc9 (n := s.ref.size) (by omega)
  have e3 := enc9 (n := s.old.size) (by omega)
  have e4 := enc9 (n := s.new.size) (by omega)
  have e5 := encPP_length hP
  unfold encS
  rw [hz]
  simp only [encT, List.length_append, toList_length]
  omega
theorem encF_1 {s : Stp} (h : goodS s ≠ 0) : encodeSF s = (noB, goodS s) := by unfold encodeSF; rw [if_pos h]
theorem encF_2 {s : Stp} (h : goodS s = 0) : encodeSF s = (⟨(encS s).toArray⟩, 0) := by unfold encodeSF; rw [if_neg (fun k => k h)]
set_option maxRecDepth 100000 in
set_option maxHeartbeats 3200000 in
theorem encodeStp_any (s : Stp) (vw vs : Value) (w : World) (hw : rdI w vw s.who) (hs : rdS w vs s.seals) :
    Calls Tryd.prog 29 #[.agg #[.string s.ref, .string s.old, .string s.new, vw, vs]] w fun e w' => e = .returned (.tuple #[.string (encodeSF s).1, .int .i64 (encodeSF s).2]) ∧ Below w.heap.size w w' := by
  obtain ⟨F, hF⟩ : ∃ F, F = encodeSF s := ⟨_, rfl⟩
  rw [← hF]
  have HF := Lib.hid hF
  obtain ⟨ae1, ae2, rfl⟩ := rd_form hw
  obtain ⟨ae3, ae4, rfl⟩ := rd_form hs
  obtain ⟨W, hW⟩ : ∃ W, w.alloc (.cells #[.string s.ref, .string s.old, .string s.new, .slice ae1 s.who.length ae2, .slice ae3 s.seals.length ae4] 25) = W := ⟨_, rfl⟩
  have hg0 : W.heap[w.heap.size]? = some (.cells #[.string s.ref, .string s.old, .string s.new, .slice ae1 s.who.length ae2, .slice ae3 s.seals.length ae4] 25 (0, 0)) := by rw [← hW]; exact heap_alloc_new _ _
  have hb1 : Below w.heap.size w W := by rw [← hW]; exact (Below.refl _ _).alloc (Nat.le_refl _) _
  have HG := Lib.hid (fun wr (h : Below W.heap.size W wr) => blk_below hg0 h)
  have HRW := Lib.hid (fun wr (h : Below W.heap.size W wr) => (hw.below hb1).below h)
  have HRS := Lib.hid (fun wr (h : Below W.heap.size W wr) => (hs.below hb1).below h)
  have HW0 := Lib.hid hb1
  have hgd := goodStp_any s _ _ W (hw.below hb1) (hs.below hb1)
  obtain ⟨ge, hge⟩ : ∃ ge, ge = goodS s := ⟨_, rfl⟩
  rw [← hge] at hgd
  have HGE := Lib.hid hge
  obtain ⟨c0, c1, c2, c3, c4, _, _⟩ := stp_cells hg0
  clear hge hF hg0 hb1 hw hs
  go_enter Tryd.func29, Tryd.ntmps29
  go_wp2_with fail
  (with_reducible refine hgd.mono ?_)
  rintro e w1 ⟨rfl, hb⟩
  have HB1 := Lib.hid hb
  clear hb hgd c0 c1 c2 c3 c4 hW
  by_cases hz : ge = 0
  · subst hz
    have hF := HF.out.trans (encF_2 HGE.out.symm)
    obtain ⟨E, hE⟩ : ∃ E, E = encS s := ⟨_, rfl⟩
    rw [← hE] at hF
    have HBIG := Lib.hid (show E.length ≤ 4000 by rw [hE]; have := encS_length HGE.out.symm; omega)
    obtain ⟨hh, P, hP, hsP⟩ := goodS_inv HGE.out.symm
    have HGP := Lib.hid hP
    have HSP := Lib.hid hsP
    have HT60 := Lib.hid (show s.ref.size ≤ 4096 ∧ s.old.size ≤ 4096 ∧ s.new.size ≤ 4096 by have := head_sizes hh; omega)
    have hlw : s.who.length = P.length := by rw [hsP]; simp [stpOf]
    have hls : s.seals.length = P.length := by rw [hsP]; simp [stpOf]
    have HPL := Lib.hid hP.len
    have HLW := Lib.hid (And.intro hlw hls)
    have HWL := Lib.hid (show s.who.length ≤ 8 by rw [hlw]; exact hP.len)
    have hzp : s.who.zip s.seals = P := by rw [hsP]; exact zip_stp s P
    have HE2 := Lib.hid (show E = [] ++ (encT s.ref ++ (encT s.old ++ (encT s.new ++ (enc s.who.length ++ (encPP P ++ []))))) by rw [List.append_nil, hE, encS, hzp]; rfl)
    obtain ⟨v2, hv2⟩ : ∃ v2, v2 = Value.slice none 0 0 := ⟨_, rfl⟩
    obtain ⟨w2, hX⟩ : ∃ X, w1.alloc (.cells #[.slice none 0 0, .int .i64 0] 76) = X := ⟨_, rfl⟩
    have hbx : Below w1.heap.size w1 w2 := by rw [← hX]; exact (Below.refl _ _).alloc (Nat.le_refl _) _
    have HB2 := Lib.hid (HB1.out.trans (hbx.mono HB1.out.size))
    have HBG := Lib.hid HB1.out.size
    have HS2 := Lib.hid (show WrSt w2 W.heap.size w1.heap.size v2 [] 0 from by rw [hv2]; exact ⟨by rw [← hX]; exact heap_alloc_new _ _, World.ownsRow_nil _ _ _ _, by simp [Value.ownBlock], HB2.out.size⟩)
    obtain ⟨c0, c1, c2, c3, c4, _, _⟩ := stp_cells (HG.out _ HB2.out)
    subst hF
    clear hE hbx hh hP hsP hlw hls hzp hv2 HB1
    obtain ⟨Y, hY⟩ : ∃ Y, w2.alloc (.cells #[.string s.ref, .string s.old, .string s.new] 9) = Y := ⟨_, rfl⟩
    have hby : Below w2.heap.size w2 Y := by rw [← hY]; exact (Below.refl _ _).alloc (Nat.le_refl _) _
    have gy : Y.heap[w2.heap.size]? = some (.cells #[.string s.ref, .string s.old, .string s.new] 9 (0, 0)) := by rw [← hY]; exact heap_alloc_new _ _
    obtain ⟨e0, e1, e2⟩ := three_cells gy
    have HSy := Lib.hid (HS2.out.below hby)
    have HBy := Lib.hid (HB2.out.trans (hby.mono HB2.out.size))
    have HTX := Lib.hid (show w2.heap.size < Y.heap.size by rw [← hY]; simp)
    have HNG := Lib.hid (show w2.heap.size ≠ w1.heap.size from fun e => by have := lt_of_block HS2.out.blk; omega)
    have HNOy := Lib.hid (show v2.ownBlock ≠ some w2.heap.size from fun e => by obtain ⟨_, cs, f, hc⟩ := owns_elem HS2.out.own e; have := lt_of_block hc; omega)
    have HGY := Lib.hid gy
    obtain ⟨tx, htx⟩ : ∃ tx, tx = w2.heap.size := ⟨_, rfl⟩
    have HTX2 := Lib.hid htx
    rw [← htx] at HNG HNOy HGY HTX e0 e1 e2
    have hEy := HE2.out
    rw [← tl3 s.ref s.old s.new] at hEy
    have HEy := Lib.hid hEy
    clear hEy
    go_wp2_with fail
    try rw [hY]
    try rw [← htx]
    clear hY hby gy htx e0 e1 e2 c0 c1 c2 c3 c4
    go_loopw [25] (fun i wr => ∃ (k : Nat) (v : Value) (l : List UInt8), i = .int .i64 (k : Int) ∧ k ≤ 3 ∧ Hid (WrSt wr W.heap.size w1.heap.size v l 0) ∧ Hid (E = l ++ ((([s.ref, s.old, s.new].drop k).flatMap encT) ++ (enc s.who.length ++ (encPP P ++ [])))) ∧ Hid (Below W.heap.size W wr) ∧ Hid (wr.heap[tx]? = some (.cells #[.string s.ref, .string s.old, .string s.new] 9 (0, 0))) ∧ Hid (v.ownBlock ≠ some tx)) (fun i _ => 3 - (intOf i).toNat)
    case atStart => exact ⟨0, v2, _, rfl, by decide, HSy, HEy, HBy, HGY, HNOy⟩
    case round =>
      clear HS2 HE2 HB2 HSy HEy HBy HGY HNOy
      obtain ⟨k, v, l, rfl, hk, HSr, HEr, HBr, HGr, HNr⟩ := hrel
      obtain ⟨c0, c1, c2, c3, c4, _, _⟩ := stp_cells (HG.out _ HBr.out)
      obtain ⟨e0, e1, e2⟩ := three_cells HGr.out
      rcases (by omega : k = 0 ∨ k = 1 ∨ k = 2 ∨ k = 3) with rfl | rfl | rfl | rfl
      · have HCb := Lib.hid (wText_enc HSr.out s.ref HT60.out.1 (by have h := HBIG.out; rw [HEr.out, List.length_append] at h; omega))
        go_wp2_with fail
        (with_reducible refine HCb.out.mono ?_)
        rintro e wb hto
        obtain ⟨rfl, vb, hsb, hbb, hxb⟩ := hto.use HBG.out HSr.out
        have HBb := Lib.hid (HBr.out.trans hbb)
        have HSb := Lib.hid hsb
        have HXb := Lib.hid hxb
        have HEb := Lib.hid (HEr.out.trans (List.append_assoc _ _ _).symm)
        clear hsb hbb hxb HCb hto
        have hq := HXb.out tx (lt_of_block HGr.out) HNG.out HNr.out
        have HGb := Lib.hid (hq.1.trans HGr.out)
        have HNb := Lib.hid hq.2
        clear hq e0 e1 e2
        clear c0 c1 c2 c3 c4
        obtain ⟨c0, c1, c2, c3, c4, _, _⟩ := stp_cells (HG.out _ HBb.out)
        go_wp2_with fail
        exact ⟨⟨1, vb, _, rfl, by decide, HSb, Lib.hid (HEb.out.trans (by simp)), HBb, HGb, HNb⟩, by simp [intOf]⟩
      · have HCb := Lib.hid (wText_enc HSr.out s.old HT60.out.2.1 (by have h := HBIG.out; rw [HEr.out, List.length_append] at h; omega))
        go_wp2_with fail
        (with_reducible refine HCb.out.mono ?_)
        rintro e wb hto
        obtain ⟨rfl, vb, hsb, hbb, hxb⟩ := hto.use HBG.out HSr.out
        have HBb := Lib.hid (HBr.out.trans hbb)
        have HSb := Lib.hid hsb
        have HXb := Lib.hid hxb
        have HEb := Lib.hid (HEr.out.trans (List.append_assoc _ _ _).symm)
        clear hsb hbb hxb HCb hto
        have hq := HXb.out tx (lt_of_block HGr.out) HNG.out HNr.out
        have HGb := Lib.hid (hq.1.trans HGr.out)
        have HNb := Lib.hid hq.2
        clear hq e0 e1 e2
        clear c0 c1 c2 c3 c4
        obtain ⟨c0, c1, c2, c3, c4, _, _⟩ := stp_cells (HG.out _ HBb.out)
        go_wp2_with fail
        exact ⟨⟨2, vb, _, rfl, by decide, HSb, Lib.hid (HEb.out.trans (by simp)), HBb, HGb, HNb⟩, by simp [intOf]⟩
      · have HCb := Lib.hid (wText_enc HSr.out s.new HT60.out.2.2 (by have h := HBIG.out; rw [HEr.out, List.length_append] at h; omega))
        go_wp2_with fail
        (with_reducible refine HCb.out.mono ?_)
        rintro e wb hto
        obtain ⟨rfl, vb, hsb, hbb, hxb⟩ := hto.use HBG.out HSr.out
        have HBb := Lib.hid (HBr.out.trans hbb)
        have HSb := Lib.hid hsb
        have HXb := Lib.hid hxb
        have HEb := Lib.hid (HEr.out.trans (List.append_assoc _ _ _).symm)
        clear hsb hbb hxb HCb hto
        have hq := HXb.out tx (lt_of_block HGr.out) HNG.out HNr.out
        have HGb := Lib.hid (hq.1.trans HGr.out)
        have HNb := Lib.hid hq.2
        clear hq e0 e1 e2
        clear c0 c1 c2 c3 c4
        obtain ⟨c0, c1, c2, c3, c4, _, _⟩ := stp_cells (HG.out _ HBb.out)
        go_wp2_with fail
        exact ⟨⟨3, vb, _, rfl, by decide, HSb, Lib.hid (HEb.out.trans (by simp)), HBb, HGb, HNb⟩, by simp [intOf]⟩
      · have HEs := Lib.hid (show E = l ++ (enc s.who.length ++ (encPP P ++ [])) from HEr.out)
        have HSs := HSr
        have HBs := HBr
        clear HSr HEr HBr HGr HNr e0 e1 e2
        have hwl := HWL.out
        have HC4 := Lib.hid (wNumber_good HSs.out ((s.who.length : Int)) (by omega) (by omega) (by have h := HBIG.out; rw [HEs.out, List.length_append] at h; omega))
        rw [show ((s.who.length : Int)).toNat = s.who.length by first | rfl | omega] at HC4
        go_wp2_with fail
        (with_reducible refine HC4.out.mono ?_)
        rintro e w4 hto
        obtain ⟨rfl, v4, hs4, hb4, hx4⟩ := hto.use HBG.out HSs.out
        have HB4 := Lib.hid (HBs.out.trans hb4)
        have HS4 := Lib.hid hs4
        have HX4 := Lib.hid hx4
        have HE4 := Lib.hid (HEs.out.trans (List.append_assoc _ _ _).symm)
        clear hwl hs4 hb4 hx4 HC4 hto
        clear c0 c1 c2 c3 c4
        obtain ⟨c0, c1, c2, c3, c4, _, _⟩ := stp_cells (HG.out _ HB4.out)
        go_wp2_with fail
        go_loopw [41] (fun i wr => ∃ (k : Nat) (v : Value) (l : List UInt8), i = .int .i64 (k : Int) ∧ k ≤ P.length ∧ Hid (WrSt wr W.heap.size w1.heap.size v l 0) ∧ Hid (E = l ++ (encPP (P.drop k) ++ [])) ∧ Hid (Below W.heap.size W wr)) (fun i _ => P.length - (intOf i).toNat)
        case atStart => exact ⟨0, v4, _, rfl, Nat.zero_le _, HS4, Lib.hid (by rw [List.drop_zero]; exact HE4.out), HB4⟩
        case round =>
          clear HS4 HE4 HX4 HB4 c0 c1 c2 c3 c4
          obtain ⟨k, v, l, rfl, hk, HSr, HEr0, HBr⟩ := hrel
          obtain ⟨c0, c1, c2, c3, c4, _, _⟩ := stp_cells (HG.out _ HBr.out)
          by_cases hkl : k < P.length
          · have HKL := Lib.hid hkl
            obtain ⟨x, hx⟩ : ∃ x, x = s.who.getD k 0 := ⟨_, rfl⟩
            obtain ⟨y, hy⟩ : ∃ y, y = s.seals.getD k noB := ⟨_, rfl⟩
            have hst := encPP_step HSP.out HGP.out hkl
            rw [← hx, ← hy] at hst
            have HX := Lib.hid hst.2.1
            have HYS := Lib.hid hst.2.2
            have hx0 : 0 ≤ x := HX.out.1
            have hx1 : x < 8 := HX.out.2
            have HEr := Lib.hid (show E = l ++ (enc x.toNat ++ (y.data.toList ++ (encPP (P.drop (k + 1)) ++ []))) by rw [HEr0.out, hst.1]; simp)
            have hlw : s.who.length = P.length := HLW.out.1
            have hls : s.seals.length = P.length := HLW.out.2
            obtain ⟨bw, ow, g1, _, hcw⟩ := rdI_at (HRW.out _ HBr.out) (by omega)
            obtain ⟨bs, os, g2, _, hcs⟩ := rdS_at' (HRS.out _ HBr.out) (by omega)
            subst g1 g2
            have HRW2 := Lib.hid (fun wr (h : Below W.heap.size W wr) => rdI_cl (HRW.out wr h) (show k < s.who.length by omega))
            have HRS2 := Lib.hid (fun wr (h : Below W.heap.size W wr) => rdS_cl (HRS.out wr h) (show k < s.seals.length by omega))
            rw [← hx] at HRW2
            rw [← hy] at HRS2
            have d0 := HRW2.out _ HBr.out
            have kb : decide ((k : Int) < (s.who.length : Int)) = true := decide_eq_true (by omega)
            have ki : (k : Int) < (s.who.length : Int) := by omega
            have kj : (k : Int) < (s.seals.length : Int) := by omega
            have k0 : (0 : Int) ≤ (k : Int) := by omega
            clear hst hx hy hkl HEr0 hlw hls hcw hcs
            have hw1 : wrap64 ((k : Int) + 1) = (k : Int) + 1 := IntWalk.wrap64_in _ (by have := HKL.out; have := HPL.out; omega)
            have HCa := Lib.hid (wNumber_good HSr.out (x) (by omega) (by omega) (by have h := HBIG.out; rw [HEr.out, List.length_append] at h; omega))
            go_wp2_with fail
            (with_reducible refine HCa.out.mono ?_)
            rintro e wa hto
            obtain ⟨rfl, va, hsa, hba, hxa⟩ := hto.use HBG.out HSr.out
            have HBa := Lib.hid (HBr.out.trans hba)
            have HSa := Lib.hid hsa
            have HXa := Lib.hid hxa
            have HEa := Lib.hid (HEr.out.trans (List.append_assoc _ _ _).symm)
            clear hsa hba hxa HCa hto
            clear c0 c1 c2 c3 c4
            obtain ⟨c0, c1, c2, c3, c4, _, _⟩ := stp_cells (HG.out _ HBa.out)
            have HCb := Lib.hid (wBytes_good HSa.out y (by have h := HBIG.out; rw [HEa.out, List.length_append] at h; have := HYS.out; omega))
            have d1 := HRS2.out _ HBa.out
            go_wp2_with fail
            (with_reducible refine HCb.out.mono ?_)
            rintro e wb hto
            obtain ⟨rfl, vb, hsb, hbb, hxb⟩ := hto.use HBG.out HSa.out
            have HBb := Lib.hid (HBa.out.trans hbb)
            have HSb := Lib.hid hsb
            have HXb := Lib.hid hxb
            have HEb := Lib.hid (HEa.out.trans (List.append_assoc _ _ _).symm)
            clear hsb hbb hxb HCb hto
            clear c0 c1 c2 c3 c4
            obtain ⟨c0, c1, c2, c3, c4, _, _⟩ := stp_cells (HG.out _ HBb.out)
            go_wp2_with fail
            exact ⟨⟨k + 1, vb, _, by first | rfl | (rw [hw1]; rfl), by have := HKL.out; omega, HSb, HEb, HBb⟩, meas_step (n := P.length) _ (by first | rfl | exact hw1) HKL.out⟩
          · have hlw : s.who.length = P.length := HLW.out.1
            have kb : decide ((k : Int) < (s.who.length : Int)) = false := decide_eq_false (by omega)
            have kb2 : decide (k < s.who.length) = false := decide_eq_false (by omega)
            have HEr := Lib.hid (show E = l ++ [] by rw [HEr0.out, List.drop_of_length_le (by omega)]; simp [encPP])
            clear hkl HEr0 hlw
            have HEE := Lib.hid (HEr.out.trans (List.append_nil _))
            have hfin := HSr.out
            rw [← HEE.out] at hfin
            have HDN := Lib.hid (wDone_any (st := (E, 0)) hfin)
            rw [show doneV (E, (0 : Int)) = .tuple #[.string ⟨E.toArray⟩, .int .i64 0] from rfl] at HDN
            obtain ⟨z, hz⟩ : ∃ z : ByteArray, z = ⟨E.toArray⟩ := ⟨_, rfl⟩
            rw [← hz] at HDN
            have HZ := Lib.hid hz
            clear hfin hz
            go_wp2_with fail
            (with_reducible refine HDN.out.mono ?_)
            rintro e wd ⟨rfl, q, rfl⟩
            have HBD := Lib.hid (HW0.out.trans ((below_drewN HBr.out q).mono HW0.out.size))
            go_wp2_with fail
            go_ret2
            exact ⟨by rw [HZ.out]; rfl, HBD.out⟩
  · have n1 : (ge == 0) = false := beq_eq_false_iff_ne.2 hz
    have n2 : (ge != 0) = true := by rw [bne, n1]; rfl
    have hF := HF.out.trans (encF_1 (by rw [← HGE.out]; exact hz))
    rw [← HGE.out] at hF
    subst hF
    clear hz
    go_wp2_with fail
    go_ret2
    exact ⟨rfl, HW0.out.trans (HB1.out.mono HW0.out.size)⟩
end Go.Proofs.YtinhjnbgblieeaaDoor
/-! Step8 -/
namespace Go.Proofs.YtinhjnbgblieeaaDoor
open Go.RowKit
set_option linter.unusedVariables false
set_option linter.unusedSimpArgs false

structure DecSp (w : World) (B g q : Nat) (st : ByteArray × Int) (s : Stp) (vw vs : Value) : Prop where
  rd : RdSt w g st
  sz : st.1.size ≤ 140737488355328
  blk : w.heap[q]? = some (.cells #[.string s.ref, .string s.old, .string s.new, vw, vs] 25 (0, 0))
  ow : w.ownsRow B 3 1 vw s.who.length (ivs s.who)
  os : w.ownsRow B 9 1 vs s.seals.length (svs s.seals)
  le : B ≤ g ∧ B ≤ q ∧ B ≤ w.heap.size
theorem DecSp.one {w : World} {B g q : Nat} {st : ByteArray × Int} {s : Stp} {vw vs : Value} (h : DecSp w B g q st s vw vs) : (#[Value.string s.ref, .string s.old, .string s.new, vw, vs]).all (·.oneCell') = true := by
  have h1 := owns_one h.ow
  have h2 := owns_one h.os
  simp only [List.all_toArray, List.all_cons, List.all_nil, h1, h2]
  rfl
theorem DecSp.far {w : World} {B g q : Nat} {st : ByteArray × Int} {s : Stp} {vw vs : Value} (h : DecSp w B g q st s vw vs) :
    g ≠ q ∧ vw.ownBlock ≠ some g ∧ vw.ownBlock ≠ some q ∧ vs.ownBlock ≠ some g ∧ vs.ownBlock ≠ some q ∧ (∀ k, vw.ownBlock = some k → vs.ownBlock ≠ some k) := by
  have hg := h.rd.blk
  have hq := h.blk
  refine ⟨?_, ?_, ?_, ?_, ?_, ?_⟩
  · intro e; rw [e, hq] at hg; simp at hg
  · intro e; obtain ⟨_, cs, f, hc⟩ := owns_elem h.ow e; rw [hc] at hg; simp at hg
  · intro e; obtain ⟨_, cs, f, hc⟩ := owns_elem h.ow e; rw [hc] at hq; simp at hq
  · intro e; obtain ⟨_, cs, f, hc⟩ := owns_elem h.os e; rw [hc] at hg; simp at hg
  · intro e; obtain ⟨_, cs, f, hc⟩ := owns_elem h.os e; rw [hc] at hq; simp at hq
  · intro k e1 e2
    obtain ⟨_, cs, f, hc⟩ := owns_elem h.ow e1
    obtain ⟨_, cs2, f2, hc2⟩ := owns_elem h.os e2
    rw [hc] at hc2; simp at hc2
theorem DecSp.read {w w' : World} {B g q : Nat} {st st' : ByteArray × Int} {s : Stp} {vw vs v : Value} {e : Ending} (h : DecSp w B g q st s vw vs) (ht : RdTo w g v st' e w') (hs : st'.1.size ≤ 140737488355328) :
    e = .returned v ∧ DecSp w' B g q st' s vw vs ∧ Below B w w' := by
  obtain ⟨he, hr, hu⟩ := ht
  obtain ⟨f1, f2, f3, f4, f5, _⟩ := h.far
  exact ⟨he, ⟨hr, hs, blk_upd h.blk hu (fun e => f1 e.symm), owns_upd h.ow hu (fun k hk e => f2 (e ▸ hk)), owns_upd h.os hu (fun k hk e => f4 (e ▸ hk)), h.le.1, h.le.2.1, Nat.le_trans h.le.2.2 hu.size⟩,
    hu.below h.le.2.2 (fun k hk => by rw [hk]; exact h.le.1)⟩
theorem DecSp.drew {w : World} {B g q : Nat} {st : ByteArray × Int} {s : Stp} {vw vs : Value} (h : DecSp w B g q st s vw vs) : DecSp w.drew B g q st s vw vs := ⟨⟨h.rd.blk⟩, h.sz, h.blk, h.ow.drew, h.os.drew, h.le⟩
theorem DecSp.below {w w' : World} {B g q : Nat} {st : ByteArray × Int} {s : Stp} {vw vs : Value} (h : DecSp w B g q st s vw vs) (hb : Below w.heap.size w w') : DecSp w' B g q st s vw vs :=
  ⟨h.rd.below hb, h.sz, blk_below h.blk hb, owns_below h.ow hb, owns_below h.os hb, h.le.1, h.le.2.1, Nat.le_trans h.le.2.2 hb.size⟩
theorem DecSp.appW {w w' : World} {B g q : Nat} {st : ByteArray × Int} {s s' : Stp} {vw vs vw' : Value} {l' : List Int} (h : DecSp w B g q st s vw vs) (ho : w'.ownsRow B 3 1 vw' l'.length (ivs l')) (hu : Upd (fun k => vw.ownBlock = some k) w w')
    (he : s' = { s with who := l' }) : DecSp (w'.setCell ⟨q, 3, none⟩ vw') B g q st s' vw' vs ∧ Below B w (w'.setCell ⟨q, 3, none⟩ vw') := by
  obtain ⟨f1, f2, f3, f4, f5, f6⟩ := h.far
  have hob := blk_upd h.blk hu f3
  have hrd := h.rd.upd hu f2
  have hps := owns_upd h.os hu (fun k hk e => f6 k e hk)
  have hU : Upd (fun k => k = q) w' (w'.setCell ⟨q, 3, none⟩ vw') := (Upd.refl (fun k => k = q) w').setCell (a := ⟨q, 3, none⟩) (.inl rfl) _
  have hne : ∀ k, vw'.ownBlock = some k → ¬ k = q := by
    intro k hk e
    subst e
    obtain ⟨_, cs, f, hc⟩ := owns_elem ho hk
    rw [hc] at hob; simp at hob
  have hle : B ≤ w'.heap.size := Nat.le_trans h.le.2.2 hu.size
  subst he
  refine ⟨⟨hrd.upd hU f1, h.sz, cells_setCell hob 3 vw', owns_upd ho hU hne, owns_upd hps hU (fun k hk e => f5 (e ▸ hk)), h.le.1, h.le.2.1, Nat.le_trans hle hU.size⟩, ?_⟩
  exact (hu.below h.le.2.2 (fun k hk => owns_ge h.ow hk)).trans (hU.below hle (fun k hk => by rw [hk]; exact h.le.2.1))
theorem DecSp.appS {w w' : World} {B g q : Nat} {st : ByteArray × Int} {s s' : Stp} {vw vs vs' : Value} {l' : List ByteArray} (h : DecSp w B g q st s vw vs) (ho : w'.ownsRow B 9 1 vs' l'.length (svs l')) (hu : Upd (fun k => vs.ownBlock = some k) w w')
    (he : s' = { s with seals := l' }) : DecSp (w'.setCell ⟨q, 4, none⟩ vs') B g q st s' vw vs' ∧ Below B w (w'.setCell ⟨q, 4, none⟩ vs') := by
  obtain ⟨f1, f2, f3, f4, f5, f6⟩ := h.far
  have hob := blk_upd h.blk hu f5
  have hrd := h.rd.upd hu f4
  have hes := owns_upd h.ow hu (fun k hk e => f6 k hk e)
  have hU : Upd (fun k => k = q) w' (w'.setCell ⟨q, 4, none⟩ vs') := (Upd.refl (fun k => k = q) w').setCell (a := ⟨q, 4, none⟩) (.inl rfl) _
  have hne : ∀ k, vs'.ownBlock = some k → ¬ k = q := by
    intro k hk e
    subst e
    obtain ⟨_, cs, f, hc⟩ := owns_elem ho hk
    rw [hc] at hob; simp at hob
  have hle : B ≤ w'.heap.size := Nat.le_trans h.le.2.2 hu.size
  subst he
  refine ⟨⟨hrd.upd hU f1, h.sz, cells_setCell hob 4 vs', owns_upd hes hU (fun k hk e => f3 (e ▸ hk)), owns_upd ho hU hne, h.le.1, h.le.2.1, Nat.le_trans hle hU.size⟩, ?_⟩
  exact (hu.below h.le.2.2 (fun k hk => owns_ge h.os hk)).trans (hU.below hle (fun k hk => by rw [hk]; exact h.le.2.1))
def endD (ra rb rc : ByteArray) (P : List (Int × ByteArray)) (st : ByteArray × Int) : Stp × Int :=
  if st.2 ≠ 0 ∨ 0 < st.1.size then (zeroStp, 2) else if goodS ⟨ra, rb, rc, P.map Prod.fst, P.map Prod.snd⟩ ≠ 0 then (zeroStp, goodS ⟨ra, rb, rc, P.map Prod.fst, P.map Prod.snd⟩) else (⟨ra, rb, rc, P.map Prod.fst, P.map Prod.snd⟩, 0)
theorem endD_bad {ra rb rc rr : ByteArray} {P : List (Int × ByteArray)} {er : Int} (h : er ≠ 0) : endD ra rb rc P (rr, er) = (zeroStp, 2) := by unfold endD; rw [if_pos (.inl h)]
theorem endD_left {ra rb rc rr : ByteArray} {P : List (Int × ByteArray)} {er : Int} (h : 0 < rr.size) : endD ra rb rc P (rr, er) = (zeroStp, 2) := by unfold endD; rw [if_pos (.inr h)]
theorem endD_good {ra rb rc rr : ByteArray} {P : List (Int × ByteArray)} (h : rr.size = 0) : endD ra rb rc P (rr, 0) = if goodS ⟨ra, rb, rc, P.map Prod.fst, P.map Prod.snd⟩ ≠ 0 then (zeroStp, goodS ⟨ra, rb, rc, P.map Prod.fst, P.map Prod.snd⟩) else (⟨ra, rb, rc, P.map Prod.fst, P.map Prod.snd⟩, 0) := by
  unfold endD; rw [if_neg (by simp [h])]
def restD (ra rb rc : ByteArray) (n : Nat) (st : ByteArray × Int) (P : List (Int × ByteArray)) : Stp × Int := endD ra rb rc (rowsD n st P).1 (rowsD n st P).2
theorem restD_end {ra rb rc : ByteArray} {n : Nat} {st : ByteArray × Int} {P : List (Int × ByteArray)} (h : n = 0 ∨ st.2 ≠ 0) : restD ra rb rc n st P = endD ra rb rc P st := by
  have e : rowsD n st P = (P, st) := by
    cases n with
    | zero => rfl
    | succ n => rcases h with h | h; · cases h
                rw [rowsD, if_pos h]
  unfold restD; rw [e]
theorem restD_step {ra rb rc rr y : ByteArray} {n x : Nat} {s2 s3 : ByteArray × Int} {P : List (Int × ByteArray)} (hn : 0 < n) (h1 : rNum (rr, 0) = (x, s2)) (h2 : rByt s2 32 = (y, s3)) :
    restD ra rb rc n (rr, 0) P = restD ra rb rc (n - 1) s3 (P ++ [((x : Int), y)]) := by
  obtain ⟨m, rfl⟩ : ∃ m, n = m + 1 := ⟨n - 1, by omega⟩
  have e : rowsD (m + 1) (rr, 0) P = rowsD m s3 (P ++ [((x : Int), y)]) := by rw [rowsD, if_neg (by simp), h1, h2]
  unfold restD; rw [e]; rfl
theorem decodeF_rest {b ra rb rc : ByteArray} {s1 s2 s3 s4 : ByteArray × Int} {n : Nat} (h1 : rTxt (b, 0) = (ra, s1)) (h2 : rTxt s1 = (rb, s2)) (h3 : rTxt s2 = (rc, s3)) (h4 : rNum s3 = (n, s4)) : decodeSF b = restD ra rb rc n s4 [] := by
  have k1 : dA b = (ra, s1) := h1
  have k2 : dB b = (rb, s2) := by unfold dB; rw [k1]; exact h2
  have k3 : dC b = (rc, s3) := by unfold dC; rw [k2]; exact h3
  have k4 : dN b = (n, s4) := by unfold dN; rw [k3]; exact h4
  have k5 : dR b = rowsD n s4 [] := by unfold dR; rw [k4]
  unfold decodeSF restD endD dS
  rw [k1, k2, k3, k5]
theorem rByt_32 {s3 s4 : ByteArray × Int} {id : ByteArray} (h : rByt s3 32 = (id, s4)) (h0 : s4.2 = 0) : s4.1.size + 32 ≤ s3.1.size := by
  unfold rByt at h
  split at h
  · next hne => cases h; exact absurd h0 hne
  · split at h
    · cases h; cases h0
    · next hz => cases h; simp only [ByteArray.size_extract]; omega
set_option maxRecDepth 100000 in
set_option maxHeartbeats 3200000 in
theorem decodeStp_any (b : ByteArray) (w : World) (hs : b.size ≤ 140737488355328) :
    Calls Tryd.prog 30 #[.string b] w fun e w' => ∃ vw vs, e = .returned (.tuple #[.agg #[.string (decodeSF b).1.ref, .string (decodeSF b).1.old, .string (decodeSF b).1.new, vw, vs], .int .i64 (decodeSF b).2]) ∧ w'.ownsRow w.heap.size 3 1 vw (decodeSF b).1.who.length (ivs (decodeSF b).1.who) ∧ w'.ownsRow w.heap.size 9 1 vs (decodeSF b).1.seals.length (svs (decodeSF b).1.seals) ∧ Below w.heap.size w w' := by
  obtain ⟨F, hF⟩ : ∃ F, F = decodeSF b := ⟨_, rfl⟩
  rw [← hF]
  have HF := Lib.hid hF
  clear hF
  obtain ⟨W, hW⟩ : ∃ W, w.alloc (.cells #[.string ⟨#[]⟩, .string ⟨#[]⟩, .string ⟨#[]⟩, .slice none 0 0, .slice none 0 0] 25) = W := ⟨_, rfl⟩
  have gR0 : W.heap[w.heap.size]? = some (.cells #[.string ⟨#[]⟩, .string ⟨#[]⟩, .string ⟨#[]⟩, .slice none 0 0, .slice none 0 0] 25 (0, 0)) := by rw [← hW]; exact heap_alloc_new _ _
  have hb1 : Below w.heap.size w W := by rw [← hW]; exact (Below.refl _ _).alloc (Nat.le_refl _) _
  have HW0 := Lib.hid hb1
  have HGR := Lib.hid (fun wr (h : Below W.heap.size W wr) => blk_below gR0 h)
  have HRDA := Lib.hid (read_any b W)
  clear hb1 gR0
  go_enter Tryd.func30, Tryd.ntmps30
  go_wp2_with fail
  (with_reducible refine HRDA.out.mono ?_)
  rintro e w1 ⟨rfl, hr1, hb1, hz1⟩
  have HB1 := Lib.hid hb1
  have HS1 := Lib.hid (show ((b, 0) : ByteArray × Int).1.size ≤ 140737488355328 from hs)
  obtain ⟨g, hgd⟩ : ∃ g, g = W.heap.size := ⟨_, rfl⟩
  rw [← hgd] at hr1 ⊢
  have HGB := Lib.hid hgd
  have HR1 := Lib.hid hr1
  clear hW hr1 hb1 hgd HRDA hz1
  have HC2 := Lib.hid (rText_any HR1.out (by have := HS1.out; omega))
  have hle2 := rTxt_le (b, 0)
  obtain ⟨⟨ra, st1⟩, hq2⟩ : ∃ q, q = rTxt (b, 0) := ⟨_, rfl⟩
  rw [← hq2] at HC2 hle2
  have HQ2 := Lib.hid hq2.symm
  have HS2 := Lib.hid (show st1.1.size ≤ 140737488355328 from Nat.le_trans hle2 HS1.out)
  clear hq2 hle2
  go_wp2_with fail
  (with_reducible refine HC2.out.mono ?_)
  rintro e w2 ⟨rfl, hr, hu⟩
  have HR2 := Lib.hid hr
  have HB2 := Lib.hid (HB1.out.trans (hu.below (by have := HB1.out.size; omega) (fun k hk => by have := HGB.out; omega)))
  clear hr hu HC2
  have HC3 := Lib.hid (rText_any HR2.out (by have := HS2.out; omega))
  have hle3 := rTxt_le st1
  obtain ⟨⟨rb, st2⟩, hq3⟩ : ∃ q, q = rTxt st1 := ⟨_, rfl⟩
  rw [← hq3] at HC3 hle3
  have HQ3 := Lib.hid hq3.symm
  have HS3 := Lib.hid (show st2.1.size ≤ 140737488355328 from Nat.le_trans hle3 HS2.out)
  clear hq3 hle3
  go_wp2_with fail
  (with_reducible refine HC3.out.mono ?_)
  rintro e w3 ⟨rfl, hr, hu⟩
  have HR3 := Lib.hid hr
  have HB3 := Lib.hid (HB2.out.trans (hu.below (by have := HB2.out.size; omega) (fun k hk => by have := HGB.out; omega)))
  clear hr hu HC3
  have HC4 := Lib.hid (rText_any HR3.out (by have := HS3.out; omega))
  have hle4 := rTxt_le st2
  obtain ⟨⟨rc, st3⟩, hq4⟩ : ∃ q, q = rTxt st2 := ⟨_, rfl⟩
  rw [← hq4] at HC4 hle4
  have HQ4 := Lib.hid hq4.symm
  have HS4 := Lib.hid (show st3.1.size ≤ 140737488355328 from Nat.le_trans hle4 HS3.out)
  clear hq4 hle4
  go_wp2_with fail
  (with_reducible refine HC4.out.mono ?_)
  rintro e w4 ⟨rfl, hr, hu⟩
  have HR4 := Lib.hid hr
  have HB4 := Lib.hid (HB3.out.trans (hu.below (by have := HB3.out.size; omega) (fun k hk => by have := HGB.out; omega)))
  clear hr hu HC4
  go_wp2_with (refine wpList_store_blk (by rfl) 25 (.tmp 5) (.tmp 16) rfl w4.heap.size #[.string ra, .string rb, .string rc, .slice none 0 0, .slice none 0 0] rfl rfl (old := _) (heap_alloc_new _ _) (by kernel_rfl) rfl (by simp [Value.oneCell']) ?_; intro V gz uz; have hbv := below_upd ((Below.refl w4.heap.size w4).alloc (Nat.le_refl _) _) uz (Nat.le_refl _) (by simp); have HBV := Lib.hid hbv; have HGZ := Lib.hid gz; clear gz uz hbv)
  obtain ⟨q, hqd⟩ : ∃ q, q = w4.heap.size := ⟨_, rfl⟩
  have HB5 := Lib.hid (HB4.out.trans (HBV.out.mono HB4.out.size))
  have HD5 := Lib.hid (show DecSp V W.heap.size g q st3 ⟨ra, rb, rc, [], []⟩ (.slice none 0 0) (.slice none 0 0) from ⟨HR4.out.below HBV.out, HS4.out, by rw [hqd]; exact HGZ.out, World.ownsRow_nil _ _ _ _, World.ownsRow_nil _ _ _ _, by have := HGB.out; omega, by have := HB4.out.size; omega, HB5.out.size⟩)
  rw [← hqd]
  clear hqd HGZ HBV
  have HC6 := Lib.hid (rNumber_any HD5.out.rd (by have := HD5.out.sz; unfold maxLen; omega))
  have hle6 := rNum_le st3
  obtain ⟨⟨cn, st4⟩, hq6⟩ : ∃ q, q = rNum st3 := ⟨_, rfl⟩
  rw [← hq6] at HC6 hle6
  have HQ6 := Lib.hid hq6.symm
  have hsz6 : st4.1.size ≤ 140737488355328 := Nat.le_trans hle6 HD5.out.sz
  clear hq6 hle6
  (with_reducible refine HC6.out.mono ?_)
  rintro e w6 hto
  obtain ⟨rfl, hd6, hb6⟩ := HD5.out.read hto hsz6
  have HD6 := Lib.hid hd6
  have HB6 := Lib.hid (HB5.out.trans hb6)
  clear hto hd6 hb6 HC6 hsz6
  obtain ⟨c0, c1, c2, c3, c4, z3, z4⟩ := stp_cells HD6.out.blk
  have hc62 : cn < 4611686018427387904 := by have := rNum_62 st3; rw [HQ6.out] at this; exact this
  have HFT := Lib.hid (HF.out.trans (decodeF_rest HQ2.out HQ3.out HQ4.out HQ6.out))
  clear HF HQ2 HQ3 HQ4 HQ6 HR1 HR2 HR3 HR4 HB1 HB2 HB3 HB4 HS1 HS2 HS3 HS4
  go_wp2_with fail
  go_loopw [6] (fun i wr => ∃ (n : Nat) (st : ByteArray × Int) (P : List (Int × ByteArray)) (A : List Int) (Z : List ByteArray) (vw vs : Value), Hid (A = P.map Prod.fst ∧ Z = P.map Prod.snd) ∧ i = .int .i64 (n : Int) ∧ n < 4611686018427387904 ∧ Hid (st.2 = 0 → P.length * 32 + st.1.size ≤ 140737488355328) ∧ P.length ≤ 4398046511105 ∧ Hid (DecSp wr W.heap.size g q st ⟨ra, rb, rc, A, Z⟩ vw vs) ∧ Hid (F = restD ra rb rc n st P) ∧ Hid (Below W.heap.size W wr)) (fun i _ => (intOf i).toNat)
  case atStart => exact ⟨cn, st4, [], [], [], .slice none 0 0, .slice none 0 0, Lib.hid ⟨rfl, rfl⟩, rfl, hc62, Lib.hid (fun _ => by have := HD6.out.sz; simpa using this), by simp, HD6, HFT, HB6⟩
  case round =>
    clear HD6 HB6 HFT HD5 HB5 c0 c1 c2 c3 c4 z3 z4
    obtain ⟨n, st, P, A, Z, vw, vs, HAZ, rfl, hn62, HSZ, hPl, HD7, HFL, HB7⟩ := hrel
    obtain ⟨rr, er⟩ := st
    obtain ⟨c0, c1, c2, c3, c4, z3, z4⟩ := stp_cells HD7.out.blk
    by_cases hpos : 0 < n
    · have hpi : decide ((0 : Int) < (n : Int)) = true := decide_eq_true (by omega)
      have hpn : decide (0 < n) = true := decide_eq_true hpos
      have HPOS := Lib.hid hpos
      clear hpos
      have HCa := Lib.hid (rBad_any HD7.out.rd)
      go_wp2_with fail
      (with_reducible refine HCa.out.mono ?_)
      rintro e w0 ⟨rfl, rfl⟩
      clear HCa
      by_cases he0 : er = 0
      · subst he0
        have HLE := Lib.hid (show P.length * 32 + rr.size ≤ 140737488355328 from HSZ.out rfl)
        have HAL := Lib.hid (show A.length = P.length ∧ Z.length = P.length by rw [HAZ.out.1, HAZ.out.2]; simp)
        have HPL := Lib.hid (show (P.length + 1) * 16 ≤ 140737488355328 by have := HLE.out; omega)
        obtain ⟨vw', hvw⟩ : ∃ v, v = vw := ⟨_, rfl⟩
        clear hvw vw'
        have HD8d := Lib.hid HD7.out.drew
        have HB8d := Lib.hid HB7.out.drew
        have HC8 := Lib.hid (rNumber_any HD8d.out.rd (by have := HD8d.out.sz; unfold maxLen; omega))
        have hle8 := rNum_le (rr, 0)
        obtain ⟨⟨x, s2⟩, hq8⟩ : ∃ q, q = rNum (rr, 0) := ⟨_, rfl⟩
        rw [← hq8] at HC8 hle8
        have HQ8 := Lib.hid hq8.symm
        have hsz8 : s2.1.size ≤ 140737488355328 := Nat.le_trans hle8 HD8d.out.sz
        clear hq8 hle8
        go_wp2_with fail
        refine Lone.wp_region_order [(0, false), (1, false), (2, false), (3, true), (4, true), (5, true), (6, false), (7, true)] (fun w' => w'.cell? ⟨q, 3, none⟩ = some vw) (by kernel_rfl) (by kernel_rfl) rfl (by kernel_rfl) (by intro _ _ d _ _ h; cases d <;> exact h) (c3) ?_; simp only [List.map_cons, List.map_nil, List.getElem?_toArray, List.getElem?_cons_zero, List.getElem?_cons_succ, Option.getD_some]
        repeat (first | (refine Lone.ro_q (by rfl) (v := ?_) ?_ ?_; rotate_left; (focus (intro w' hSw; (try dsimp only at hSw); go_simp; try with_reducible rfl)); simp only [Act.put, List.setIfInBounds_toArray, List.set_cons_zero, List.set_cons_succ]) | (refine Lone.ro_skip (by rfl) ?_; simp only [Act.put, List.setIfInBounds_toArray, List.set_cons_zero, List.set_cons_succ]))
        (refine Lone.ro_loud (by rfl) (fun K hK => ?_); go_simp)
        (with_reducible refine HC8.out.mono ?_)
        rintro e w8 hto
        obtain ⟨rfl, hd8, hb8⟩ := HD8d.out.read hto hsz8
        have HD8 := Lib.hid hd8
        have HB8 := Lib.hid (HB8d.out.trans hb8)
        clear hto hd8 hb8 HC8 hsz8
        clear c0 c1 c2 c3 c4 z3 z4
        obtain ⟨c0, c1, c2, c3, c4, z3, z4⟩ := stp_cells HD8.out.blk
        (refine hK.out _ _ (fun w' => w'.cell? ⟨q, 3, none⟩ = some vw) (.inl fun _ h => h) (c3) ?_; clear hK K; try simp only [Act.put, List.setIfInBounds_toArray, List.set_cons_zero, List.set_cons_succ])
        repeat (first | (refine Lone.ro_q (by rfl) (v := ?_) ?_ ?_; rotate_left; (focus (intro w' hSw; (try dsimp only at hSw); go_simp; try with_reducible rfl)); simp only [Act.put, List.setIfInBounds_toArray, List.set_cons_zero, List.set_cons_succ]) | (refine Lone.ro_skip (by rfl) ?_; simp only [Act.put, List.setIfInBounds_toArray, List.set_cons_zero, List.set_cons_succ]))
        (refine Lone.ro_loud (by rfl) (fun K hK => ?_); go_simp)
        have HDa := Lib.hid (HD8.out.below (w' := w8.alloc (.cells #[.int .i64 (x : Int)] 3)) ((Below.refl _ _).alloc (Nat.le_refl _) _))
        (refine hK.out _ _ (fun w' => w'.cell? ⟨q, 3, none⟩ = some vw) (.inl fun _ h => h) ((stp_cells HDa.out.blk).2.2.2.1) ?_; clear hK K; try simp only [Act.put, List.setIfInBounds_toArray, List.set_cons_zero, List.set_cons_succ])
        repeat (first | (refine Lone.ro_q (by rfl) (v := ?_) ?_ ?_; rotate_left; (focus (intro w' hSw; (try dsimp only at hSw); go_simp; try with_reducible rfl)); simp only [Act.put, List.setIfInBounds_toArray, List.set_cons_zero, List.set_cons_succ]) | (refine Lone.ro_skip (by rfl) ?_; simp only [Act.put, List.setIfInBounds_toArray, List.set_cons_zero, List.set_cons_succ]))
        refine Lone.ro_loud (by rfl) (fun K hK => ?_)
        refine wp_append1u (.tmp 29) (.tmp 32) 22 rfl info_int Tryd.underlying22 rfl (by decide) HD8.out.ow HB8.out.size rfl (by have := HPL.out; have := HAL.out; show (A.length + 1) * 8 ≤ 140737488355328; omega) rfl rfl ?_
        intro v' w' hown' hupd'
        have HOW := Lib.hid (show w'.ownsRow W.heap.size 3 1 v' (A ++ [(x : Int)]).length (ivs (A ++ [(x : Int)])) by rw [ivs_append, List.length_append]; exact hown')
        have HUP := Lib.hid hupd'
        obtain ⟨ao6, cp6, rfl⟩ := owns_slice HOW.out
        clear c0 c1 c2 c3 c4 z3 z4
        obtain ⟨c0, c1, c2, c3, c4, z3, z4⟩ := stp_cells (blk_upd HD8.out.blk HUP.out HD8.out.far.2.2.1)
        clear hown' hupd' HDa
        (refine hK.out _ _ (fun w' => w'.cell? ⟨q, 3, none⟩ = some vw) (.inl fun _ h => h) (c3) ?_; clear hK K; try simp only [Act.put, List.setIfInBounds_toArray, List.set_cons_zero, List.set_cons_succ])
        repeat (first | (refine Lone.ro_q (by rfl) (v := ?_) ?_ ?_; rotate_left; (focus (intro w' hSw; (try dsimp only at hSw); go_simp; try with_reducible rfl)); simp only [Act.put, List.setIfInBounds_toArray, List.set_cons_zero, List.set_cons_succ]) | (refine Lone.ro_skip (by rfl) ?_; simp only [Act.put, List.setIfInBounds_toArray, List.set_cons_zero, List.set_cons_succ]))
        (refine Lone.ro_loud (by rfl) (fun K hK => ?_); go_simp)
        (refine hK.out _ _ (fun _ => True) (.inr (by kernel_rfl)) (trivial) ?_; clear hK K; try simp only [Act.put, List.setIfInBounds_toArray, List.set_cons_zero, List.set_cons_succ])
        have hap := HD8.out.appW (s' := ⟨ra, rb, rc, A ++ [(x : Int)], Z⟩) HOW.out HUP.out rfl
        simp only [List.length_append, List.length_cons, List.length_nil, Nat.zero_add] at hap
        obtain ⟨w9, hw9⟩ : ∃ W, w'.setCell ⟨q, 3, none⟩ (.slice ao6 (A ++ [(x : Int)]).length cp6) = W := ⟨_, rfl⟩
        simp only [List.length_append, List.length_cons, List.length_nil, Nat.zero_add] at hw9
        rw [hw9] at hap ⊢
        have HD9 := Lib.hid hap.1
        have HB9 := Lib.hid (HB8.out.trans hap.2)
        clear hap hw9 HOW HUP HD8 HB8 HD8d HB8d
        clear c0 c1 c2 c3 c4 z3 z4
        obtain ⟨c0, c1, c2, c3, c4, z3, z4⟩ := stp_cells HD9.out.blk
        (refine Lone.ro_nil ?_; go_wp2_with fail)
        have HD9d := Lib.hid HD9.out.drew
        have HB9d := Lib.hid HB9.out.drew
        have HC10 := Lib.hid (rBytes_any HD9d.out.rd (by have := HD9d.out.sz; omega) 32)
        have hle10 := rByt_le s2 32
        obtain ⟨⟨y, s3⟩, hq10⟩ : ∃ q, q = rByt s2 32 := ⟨_, rfl⟩
        rw [← hq10] at HC10 hle10
        have HQ10 := Lib.hid hq10.symm
        have hsz10 : s3.1.size ≤ 140737488355328 := Nat.le_trans hle10 HD9d.out.sz
        clear hq10 hle10
        refine Lone.wp_region_order [(0, false), (1, false), (2, false), (3, true), (4, true), (5, true), (6, false), (7, true)] (fun w' => w'.cell? ⟨q, 4, none⟩ = some vs) (by kernel_rfl) (by kernel_rfl) rfl (by kernel_rfl) (by intro _ _ d _ _ h; cases d <;> exact h) (c4) ?_; simp only [List.map_cons, List.map_nil, List.getElem?_toArray, List.getElem?_cons_zero, List.getElem?_cons_succ, Option.getD_some]
        repeat (first | (refine Lone.ro_q (by rfl) (v := ?_) ?_ ?_; rotate_left; (focus (intro w' hSw; (try dsimp only at hSw); go_simp; try with_reducible rfl)); simp only [Act.put, List.setIfInBounds_toArray, List.set_cons_zero, List.set_cons_succ]) | (refine Lone.ro_skip (by rfl) ?_; simp only [Act.put, List.setIfInBounds_toArray, List.set_cons_zero, List.set_cons_succ]))
        (refine Lone.ro_loud (by rfl) (fun K hK => ?_); go_simp)
        (with_reducible refine HC10.out.mono ?_)
        rintro e w10 hto
        obtain ⟨rfl, hd10, hb10⟩ := HD9d.out.read hto hsz10
        have HD10 := Lib.hid hd10
        have HB10 := Lib.hid (HB9d.out.trans hb10)
        clear hto hd10 hb10 HC10 hsz10
        clear c0 c1 c2 c3 c4 z3 z4
        obtain ⟨c0, c1, c2, c3, c4, z3, z4⟩ := stp_cells HD10.out.blk
        (refine hK.out _ _ (fun w' => w'.cell? ⟨q, 4, none⟩ = some vs) (.inl fun _ h => h) (c4) ?_; clear hK K; try simp only [Act.put, List.setIfInBounds_toArray, List.set_cons_zero, List.set_cons_succ])
        repeat (first | (refine Lone.ro_q (by rfl) (v := ?_) ?_ ?_; rotate_left; (focus (intro w' hSw; (try dsimp only at hSw); go_simp; try with_reducible rfl)); simp only [Act.put, List.setIfInBounds_toArray, List.set_cons_zero, List.set_cons_succ]) | (refine Lone.ro_skip (by rfl) ?_; simp only [Act.put, List.setIfInBounds_toArray, List.set_cons_zero, List.set_cons_succ]))
        (refine Lone.ro_loud (by rfl) (fun K hK => ?_); go_simp)
        have HDa := Lib.hid (HD10.out.below (w' := w10.alloc (.cells #[.string y] 9)) ((Below.refl _ _).alloc (Nat.le_refl _) _))
        (refine hK.out _ _ (fun w' => w'.cell? ⟨q, 4, none⟩ = some vs) (.inl fun _ h => h) ((stp_cells HDa.out.blk).2.2.2.2.1) ?_; clear hK K; try simp only [Act.put, List.setIfInBounds_toArray, List.set_cons_zero, List.set_cons_succ])
        repeat (first | (refine Lone.ro_q (by rfl) (v := ?_) ?_ ?_; rotate_left; (focus (intro w' hSw; (try dsimp only at hSw); go_simp; try with_reducible rfl)); simp only [Act.put, List.setIfInBounds_toArray, List.set_cons_zero, List.set_cons_succ]) | (refine Lone.ro_skip (by rfl) ?_; simp only [Act.put, List.setIfInBounds_toArray, List.set_cons_zero, List.set_cons_succ]))
        refine Lone.ro_loud (by rfl) (fun K hK => ?_)
        refine wp_append1u (.tmp 36) (.tmp 39) 23 rfl info_string Tryd.underlying23 rfl (by decide) HD10.out.os HB10.out.size rfl (by have := HPL.out; have := HAL.out; show (Z.length + 1) * 16 ≤ 140737488355328; omega) rfl rfl ?_
        intro v' w' hown' hupd'
        have HOW := Lib.hid (show w'.ownsRow W.heap.size 9 1 v' (Z ++ [y]).length (svs (Z ++ [y])) by rw [svs_append, List.length_append]; exact hown')
        have HUP := Lib.hid hupd'
        obtain ⟨ao6, cp6, rfl⟩ := owns_slice HOW.out
        clear c0 c1 c2 c3 c4 z3 z4
        obtain ⟨c0, c1, c2, c3, c4, z3, z4⟩ := stp_cells (blk_upd HD10.out.blk HUP.out HD10.out.far.2.2.2.2.1)
        clear hown' hupd' HDa
        (refine hK.out _ _ (fun w' => w'.cell? ⟨q, 4, none⟩ = some vs) (.inl fun _ h => h) (c4) ?_; clear hK K; try simp only [Act.put, List.setIfInBounds_toArray, List.set_cons_zero, List.set_cons_succ])
        repeat (first | (refine Lone.ro_q (by rfl) (v := ?_) ?_ ?_; rotate_left; (focus (intro w' hSw; (try dsimp only at hSw); go_simp; try with_reducible rfl)); simp only [Act.put, List.setIfInBounds_toArray, List.set_cons_zero, List.set_cons_succ]) | (refine Lone.ro_skip (by rfl) ?_; simp only [Act.put, List.setIfInBounds_toArray, List.set_cons_zero, List.set_cons_succ]))
        (refine Lone.ro_loud (by rfl) (fun K hK => ?_); go_simp)
        (refine hK.out _ _ (fun _ => True) (.inr (by kernel_rfl)) (trivial) ?_; clear hK K; try simp only [Act.put, List.setIfInBounds_toArray, List.set_cons_zero, List.set_cons_succ])
        have hap := HD10.out.appS (s' := ⟨ra, rb, rc, A ++ [(x : Int)], Z ++ [y]⟩) HOW.out HUP.out rfl
        simp only [List.length_append, List.length_cons, List.length_nil, Nat.zero_add] at hap
        obtain ⟨w12, hw9⟩ : ∃ W, w'.setCell ⟨q, 4, none⟩ (.slice ao6 (Z ++ [y]).length cp6) = W := ⟨_, rfl⟩
        simp only [List.length_append, List.length_cons, List.length_nil, Nat.zero_add] at hw9
        rw [hw9] at hap ⊢
        have HD12 := Lib.hid hap.1
        have HB12 := Lib.hid (HB10.out.trans hap.2)
        clear hap hw9 HOW HUP HD10 HB10 HD9d HB9d
        clear c0 c1 c2 c3 c4 z3 z4
        obtain ⟨c0, c1, c2, c3, c4, z3, z4⟩ := stp_cells HD12.out.blk
        (refine Lone.ro_nil ?_; go_wp2_with fail)
        have HF2 := Lib.hid (HFL.out.trans (restD_step HPOS.out HQ8.out HQ10.out))
        have HAZ2 := Lib.hid (show A ++ [(x : Int)] = (P ++ [((x : Int), y)]).map Prod.fst ∧ Z ++ [y] = (P ++ [((x : Int), y)]).map Prod.snd by rw [List.map_append, List.map_append, HAZ.out.1, HAZ.out.2]; exact ⟨rfl, rfl⟩)
        have HS4 := Lib.hid (show s3.2 = 0 → (P ++ [((x : Int), y)]).length * 32 + s3.1.size ≤ 140737488355328 from fun h0 => by have a1 := rByt_32 HQ10.out h0; have a2 := rNum_le (rr, 0); rw [HQ8.out] at a2; have a3 : s2.1.size ≤ rr.size := a2; have a4 := HLE.out; rw [List.length_append]; show (P.length + 1) * 32 + _ ≤ _; omega)
        skip
        exact ⟨⟨n - 1, s3, P ++ [((x : Int), y)], A ++ [(x : Int)], Z ++ [y], _, _, HAZ2, by first | rfl | (have := HPOS.out; go_num), by omega, HS4, by have := HLE.out; simp; omega, HD12, HF2, HB12⟩, by have := HPOS.out; simp [intOf]; omega⟩
      · have h1 : (er == 0) = false := beq_eq_false_iff_ne.2 he0
        have h2 : (er != 0) = true := by rw [bne, h1]; rfl
        have HRAW := Lib.hid (HFL.out.trans ((restD_end (.inr he0)).trans (endD_bad he0)))
        have hF := HRAW.out
        subst hF
        clear he0
        have HCb := Lib.hid (rBad_any HD7.out.rd)
        go_wp2_with fail
        (with_reducible refine HCb.out.mono ?_)
        rintro e w0 ⟨rfl, rfl⟩
        clear HCb
        have gR := HGR.out _ HB7.out
        obtain ⟨r0, r1, r2, r3, r4, y3, y4⟩ := stp_cells gR
        go_wp2_with (refine wpList_store_blk (by rfl) 25 (.tmp 2) (.tmp 50) rfl w.heap.size #[.string ⟨#[]⟩, .string ⟨#[]⟩, .string ⟨#[]⟩, .slice none 0 0, .slice none 0 0] rfl rfl (old := _) gR (by kernel_rfl) rfl (by simp [Value.oneCell']) ?_; intro wz gz uz)
        clear r0 r1 r2 r3 r4 y3 y4
        obtain ⟨r0, r1, r2, r3, r4, _, _⟩ := stp_cells gz
        refine bodyPost_ret (v := .tuple #[.agg #[.string ⟨#[]⟩, .string ⟨#[]⟩, .string ⟨#[]⟩, .slice none 0 0, .slice none 0 0], .int .i64 (2)]) ?_ rfl ⟨.slice none 0 0, .slice none 0 0, rfl, World.ownsRow_nil _ _ _ _, World.ownsRow_nil _ _ _ _, below_upd (HW0.out.trans (HB7.out.mono HW0.out.size)) uz (Nat.le_refl _) (by have := HW0.out.size; have := HB7.out.size; omega)⟩
        simp [results, Tryd.f30, go_sem, zeroStp, noB, r0, r1, r2, r3, r4]
    · have hpi : decide ((0 : Int) < (n : Int)) = false := decide_eq_false (by omega)
      have hpn : decide (0 < n) = false := decide_eq_false hpos
      have HRAW := Lib.hid (HFL.out.trans (restD_end (.inl (by omega))))
      clear hpos
      have HCb := Lib.hid (rBad_any HD7.out.rd)
      go_wp2_with fail
      (with_reducible refine HCb.out.mono ?_)
      rintro e w0 ⟨rfl, rfl⟩
      clear HCb
      by_cases her : er = 0
      · subst her
        have HCl := Lib.hid (rLeft_any HD7.out.rd)
        go_wp2_with fail
        (with_reducible refine HCl.out.mono ?_)
        rintro e w0 ⟨rfl, rfl⟩
        clear HCl
        by_cases hleft : 0 < rr.size
        · have hF := HRAW.out.trans (endD_left hleft)
          subst hF
          have h1 : decide ((0 : Int) < (rr.size : Int)) = true := decide_eq_true (by omega)
          have h2 : decide (0 < rr.size) = true := decide_eq_true hleft
          clear hleft
          have gR := HGR.out _ HB7.out
          obtain ⟨r0, r1, r2, r3, r4, y3, y4⟩ := stp_cells gR
          go_wp2_with (refine wpList_store_blk (by rfl) 25 (.tmp 2) (.tmp 50) rfl w.heap.size #[.string ⟨#[]⟩, .string ⟨#[]⟩, .string ⟨#[]⟩, .slice none 0 0, .slice none 0 0] rfl rfl (old := _) gR (by kernel_rfl) rfl (by simp [Value.oneCell']) ?_; intro wz gz uz)
          clear r0 r1 r2 r3 r4 y3 y4
          obtain ⟨r0, r1, r2, r3, r4, _, _⟩ := stp_cells gz
          refine bodyPost_ret (v := .tuple #[.agg #[.string ⟨#[]⟩, .string ⟨#[]⟩, .string ⟨#[]⟩, .slice none 0 0, .slice none 0 0], .int .i64 (2)]) ?_ rfl ⟨.slice none 0 0, .slice none 0 0, rfl, World.ownsRow_nil _ _ _ _, World.ownsRow_nil _ _ _ _, below_upd (HW0.out.trans (HB7.out.mono HW0.out.size)) uz (Nat.le_refl _) (by have := HW0.out.size; have := HB7.out.size; omega)⟩
          simp [results, Tryd.f30, go_sem, zeroStp, noB, r0, r1, r2, r3, r4]
        · have h1 : decide ((0 : Int) < (rr.size : Int)) = false := decide_eq_false (by omega)
          have h2 : decide (0 < rr.size) = false := decide_eq_false hleft
          have hfg := HRAW.out.trans (endD_good (by omega))
          rw [← HAZ.out.1, ← HAZ.out.2] at hfg
          have HFG := Lib.hid hfg
          clear hfg
          clear hleft
          obtain ⟨e1, e2, vwf⟩ := rd_form (rdI_owns HD7.out.ow)
          obtain ⟨e3, e4, vsf⟩ := rd_form (rdS_owns HD7.out.os)
          subst vwf vsf
          have hgd := goodStp_any (⟨ra, rb, rc, A, Z⟩ : Stp) _ _ _ (rdI_owns HD7.out.ow) (rdS_owns HD7.out.os)
          obtain ⟨gq, hgq⟩ : ∃ e : Int, e = goodS (⟨ra, rb, rc, A, Z⟩ : Stp) := ⟨_, rfl⟩
          rw [← hgq] at hgd HFG
          clear hgq
          go_wp2_with fail
          (with_reducible refine hgd.mono ?_)
          rintro e w9 ⟨rfl, hb9⟩
          have HB9 := Lib.hid (HB7.out.trans (hb9.mono HD7.out.le.2.2))
          have HD9 := Lib.hid (HD7.out.below hb9)
          clear hb9 hgd
          clear c0 c1 c2 c3 c4 z3 z4
          obtain ⟨c0, c1, c2, c3, c4, z3, z4⟩ := stp_cells HD9.out.blk
          by_cases hg0 : gq = 0
          · have hF := HFG.out.trans (if_neg (by simpa using hg0))
            subst hF hg0
            have gR := HGR.out _ HB9.out
            have h1c := HD9.out.one
            go_wp2_with (refine wpList_store_blk (by rfl) 25 (.tmp 2) (.tmp 57) rfl w.heap.size #[.string ra, .string rb, .string rc, .slice e1 A.length e2, .slice e3 Z.length e4] rfl rfl (old := _) gR (by kernel_rfl) rfl (by simp [Value.oneCell']) ?_; intro wz gz uz)
            obtain ⟨r0, r1, r2, r3, r4, _, _⟩ := stp_cells gz
            have hlt : w.heap.size < W.heap.size := lt_of_block (HGR.out _ (Below.refl _ _))
            refine bodyPost_ret (v := .tuple #[.agg #[.string ra, .string rb, .string rc, .slice e1 A.length e2, .slice e3 Z.length e4], .int .i64 0]) ?_ rfl ⟨_, _, rfl, owns_base (owns_upd HD9.out.ow uz (fun k hk e => by have := owns_ge HD9.out.ow hk; omega)) HW0.out.size, owns_base (owns_upd HD9.out.os uz (fun k hk e => by have := owns_ge HD9.out.os hk; omega)) HW0.out.size, below_upd (HW0.out.trans (HB9.out.mono HW0.out.size)) uz (Nat.le_refl _) (by have := HW0.out.size; have := HB9.out.size; omega)⟩
            simp [results, Tryd.f30, go_sem, r0, r1, r2, r3, r4]
          · have h3 : (gq == 0) = false := beq_eq_false_iff_ne.2 hg0
            have h4 : (gq != 0) = true := by rw [bne, h3]; rfl
            have hF := HFG.out.trans (if_pos hg0)
            subst hF
            clear hg0
            have gR := HGR.out _ HB9.out
            obtain ⟨r0, r1, r2, r3, r4, y3, y4⟩ := stp_cells gR
            go_wp2_with (refine wpList_store_blk (by rfl) 25 (.tmp 2) (.tmp 55) rfl w.heap.size #[.string ⟨#[]⟩, .string ⟨#[]⟩, .string ⟨#[]⟩, .slice none 0 0, .slice none 0 0] rfl rfl (old := _) gR (by kernel_rfl) rfl (by simp [Value.oneCell']) ?_; intro wz gz uz)
            clear r0 r1 r2 r3 r4 y3 y4
            obtain ⟨r0, r1, r2, r3, r4, _, _⟩ := stp_cells gz
            refine bodyPost_ret (v := .tuple #[.agg #[.string ⟨#[]⟩, .string ⟨#[]⟩, .string ⟨#[]⟩, .slice none 0 0, .slice none 0 0], .int .i64 (gq)]) ?_ rfl ⟨.slice none 0 0, .slice none 0 0, rfl, World.ownsRow_nil _ _ _ _, World.ownsRow_nil _ _ _ _, below_upd (HW0.out.trans (HB9.out.mono HW0.out.size)) uz (Nat.le_refl _) (by have := HW0.out.size; have := HB9.out.size; omega)⟩
            simp [results, Tryd.f30, go_sem, zeroStp, noB, r0, r1, r2, r3, r4]
      · have h1 : (er == 0) = false := beq_eq_false_iff_ne.2 her
        have h2 : (er != 0) = true := by rw [bne, h1]; rfl
        have hF := HRAW.out.trans (endD_bad her)
        subst hF
        clear her
        have gR := HGR.out _ HB7.out
        obtain ⟨r0, r1, r2, r3, r4, y3, y4⟩ := stp_cells gR
        go_wp2_with (refine wpList_store_blk (by rfl) 25 (.tmp 2) (.tmp 50) rfl w.heap.size #[.string ⟨#[]⟩, .string ⟨#[]⟩, .string ⟨#[]⟩, .slice none 0 0, .slice none 0 0] rfl rfl (old := _) gR (by kernel_rfl) rfl (by simp [Value.oneCell']) ?_; intro wz gz uz)
        clear r0 r1 r2 r3 r4 y3 y4
        obtain ⟨r0, r1, r2, r3, r4, _, _⟩ := stp_cells gz
        refine bodyPost_ret (v := .tuple #[.agg #[.string ⟨#[]⟩, .string ⟨#[]⟩, .string ⟨#[]⟩, .slice none 0 0, .slice none 0 0], .int .i64 (2)]) ?_ rfl ⟨.slice none 0 0, .slice none 0 0, rfl, World.ownsRow_nil _ _ _ _, World.ownsRow_nil _ _ _ _, below_upd (HW0.out.trans (HB7.out.mono HW0.out.size)) uz (Nat.le_refl _) (by have := HW0.out.size; have := HB7.out.size; omega)⟩
        simp [results, Tryd.f30, go_sem, zeroStp, noB, r0, r1, r2, r3, r4]
end Go.Proofs.YtinhjnbgblieeaaDoor
/-! Stps -/
namespace Go.Proofs.YtinhjnbgblieeaaDoor
open Go.RowKit
set_option linter.unusedVariables false
set_option linter.unusedSimpArgs false

/-- A step with the values of its rows. -/
structure Stv where
  s : Stp
  vw : Value
  vs : Value
def zeroStv : Stv := ⟨zeroStp, .slice none 0 0, .slice none 0 0⟩
def stvC (t : Stv) : List Value := [.string t.s.ref, .string t.s.old, .string t.s.new, t.vw, t.vs]
theorem stvC_len (t : Stv) : (stvC t).length = 5 := rfl
/-- A slice reads as a list of steps. -/
structure RdT (w : World) (v : Value) (L : List Stv) : Prop where
  row : rdG 5 stvC w v L
  sub : ∀ t ∈ L, rdI w t.vw t.s.who ∧ rdS w t.vs t.s.seals
def rdT (w : World) (v : Value) (l : List Stp) : Prop := ∃ L : List Stv, L.map Stv.s = l ∧ RdT w v L
theorem RdT.below {w w' : World} {v : Value} {L : List Stv} (h : RdT w v L) (hb : Below w.heap.size w w') : RdT w' v L :=
  ⟨h.row.below hb, fun t ht => ⟨(h.sub t ht).1.below hb, (h.sub t ht).2.below hb⟩⟩
theorem rdT.below {w w' : World} {v : Value} {l : List Stp} (h : rdT w v l) (hb : Below w.heap.size w w') : rdT w' v l := by
  obtain ⟨L, h1, h2⟩ := h
  exact ⟨L, h1, h2.below hb⟩
theorem rdT_nil (w : World) : rdT w (.slice none 0 0) [] := ⟨[], rfl, rdG_nil w, fun _ h => by cases h⟩
theorem rdT_form {w : World} {v : Value} {l : List Stp} (h : rdT w v l) : ∃ ao cap, v = .slice ao l.length cap := by
  obtain ⟨L, rfl, h1, _⟩ := h
  rw [List.length_map]
  exact rd_form h1
theorem rdT_len {w : World} {v : Value} {l : List Stp} (h : rdT w v l) : l.length ≤ 9223372036854775807 := by
  obtain ⟨L, rfl, h1, _⟩ := h
  rw [List.length_map]
  exact rdG_len h1
theorem stv_getD (L : List Stv) (k : Nat) : (L.getD k zeroStv).s = (L.map Stv.s).getD k zeroStp := by
  rw [List.getD, List.getD, List.getElem?_map]
  cases L[k]? <;> rfl
/-- The cells of an element, in the walk's spelling. -/
theorem RdT.at {w : World} {ao : Option Addr} {n cap : Nat} {L : List Stv} (h : RdT w (.slice ao n cap) L) {k : Nat} (hk : k < L.length) :
    ∃ b off, ao = some ⟨b, off, none⟩ ∧ w.cell? ⟨b, off + k * 5, none⟩ = some (.string (L.getD k zeroStv).s.ref) ∧ w.cell? ⟨b, off + k * 5 + 1, none⟩ = some (.string (L.getD k zeroStv).s.old) ∧ w.cell? ⟨b, off + k * 5 + 2, none⟩ = some (.string (L.getD k zeroStv).s.new) ∧ w.cell? ⟨b, off + k * 5 + 3, none⟩ = some (L.getD k zeroStv).vw ∧ w.cell? ⟨b, off + k * 5 + 4, none⟩ = some (L.getD k zeroStv).vs ∧
      rdI w (L.getD k zeroStv).vw (L.getD k zeroStv).s.who ∧ rdS w (L.getD k zeroStv).vs (L.getD k zeroStv).s.seals := by
  obtain ⟨b, off, h1, _, hc⟩ := rdG_at stvC_len (by decide) zeroStv h.row (by omega)
  have hm : L.getD k zeroStv ∈ L := by rw [List.getD, List.getElem?_eq_getElem hk]; exact List.getElem_mem hk
  refine ⟨b, off, h1, ?_, ?_, ?_, ?_, ?_, h.sub _ hm⟩
  · exact hc k hk 0 _ rfl
  · rw [Nat.add_assoc]; exact hc k hk 1 _ rfl
  · rw [Nat.add_assoc]; exact hc k hk 2 _ rfl
  · rw [Nat.add_assoc]; exact hc k hk 3 _ rfl
  · rw [Nat.add_assoc]; exact hc k hk 4 _ rfl
theorem size_step : (Tryd.prog.info? 25).map (·.size) = some 5 := by kernel_rfl
theorem rdT_to {w : World} {v : Value} {l : List Stp} (hr : rdT w v l) (n : Nat) (hn : n ≤ l.length) :
    ∃ v', (∀ w' : World, (Instr.sliceAt 53 v none (some (.int .i64 (n : Int))) none).run Tryd.prog w' = .ok v' w') ∧ rdT w v' (l.take n) := by
  obtain ⟨L, rfl, h1, h2⟩ := hr
  rw [List.length_map] at hn
  obtain ⟨v', h3, h4⟩ := rdG_to stvC_len Tryd.underlying53 size_step h1 n hn
  exact ⟨v', h3, L.take n, by rw [List.map_take], h4, fun t ht => h2 t (List.mem_of_mem_take ht)⟩
theorem rdT_from {w : World} {v : Value} {l : List Stp} (hr : rdT w v l) (n : Nat) (hn : n ≤ l.length) :
    ∃ v', (∀ w' : World, (Instr.sliceAt 53 v (some (.int .i64 (n : Int))) none none).run Tryd.prog w' = .ok v' w') ∧ rdT w v' (l.drop n) := by
  obtain ⟨L, rfl, h1, h2⟩ := hr
  rw [List.length_map] at hn
  obtain ⟨v', h3, h4⟩ := rdG_from stvC_len Tryd.underlying53 size_step h1 n hn
  exact ⟨v', h3, L.drop n, by rw [List.map_drop], h4, fun t ht => h2 t (List.mem_of_mem_drop ht)⟩
end Go.Proofs.YtinhjnbgblieeaaDoor
