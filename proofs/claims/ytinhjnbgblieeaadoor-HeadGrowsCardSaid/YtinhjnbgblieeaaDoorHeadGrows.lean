/- HeadGrows: the head of all steps goes on from the head of the first ones. -/
import Derived.Test.YtinhjnbgblieeaaDoorHdA
import Derived.Test.YtinhjnbgblieeaaDoorMer
namespace Go.Proofs.YtinhjnbgblieeaaDoor
open Go.RowKit
set_option linter.unusedVariables false
set_option linter.unusedSimpArgs false

theorem pick_in (i : Int) (n : Nat) (h1 : -9223372036854775808 ≤ i) (h2 : i ≤ 9223372036854775807) (hn : n ≤ 4000) :
    ∃ m : Nat, m ≤ n ∧ ∀ w' : World, Calls Tryd.prog 24 #[.int .i64 i, .int .i64 ((n : Int) + 1)] w' fun e w'' => e = .returned (.int .i64 (m : Int)) ∧ w' = w'' := by
  have hp := pick_law i (n + 1) (by omega)
  refine ⟨(i % ((n + 1 : Nat) : Int)).toNat, by omega, fun w' => ?_⟩
  have h := pick_any i (n + 1) w' h1 h2 (by omega) (by omega)
  rw [show ((n : Int) + 1) = ((n + 1 : Nat) : Int) by omega, show (((i % ((n + 1 : Nat) : Int)).toNat : Nat) : Int) = i % ((n + 1 : Nat) : Int) by omega]
  exact h
theorem proofG_smalls : ∀ (N : Nat) (la : List ByteArray) (m : Nat) (wh : Bool), la.length ≤ N → smalls (proofG la m wh) := by
  intro N
  induction N with
  | zero =>
    intro la m wh h
    obtain rfl : la = [] := List.eq_nil_of_length_eq_zero (by omega)
    rw [proofG]
    split
    · split
      · intro s hs; cases hs
      · intro s hs; rw [List.mem_singleton.1 hs, root32]; decide
    · rw [dif_neg (by simp)]; intro s hs; cases hs
  | succ N ih =>
    intro la m wh h
    by_cases he : m = la.length
    · rw [proofG_all _ he]
      split
      · intro s hs; cases hs
      · intro s hs; rw [List.mem_singleton.1 hs, root32]; decide
    · by_cases h2 : 2 ≤ la.length
      · have hsp := halfF_spec h2
        by_cases hk : m ≤ halfF la.length
        · rw [proofG_left _ he h2 hk]
          exact smalls_more (ih _ _ _ (by rw [List.length_take]; omega)) (by rw [root32]; decide)
        · rw [proofG_right _ he h2 hk]
          exact smalls_more (ih _ _ _ (by rw [List.length_drop]; omega)) (by rw [root32]; decide)
      · rw [proofG, if_neg he, dif_neg h2]; intro s hs; cases hs
theorem proof_smalls (la : List ByteArray) (m : Nat) : smalls (proofF la m) := by
  unfold proofF
  split
  · exact proofG_smalls _ la m true (Nat.le_refl _)
  · intro s hs; cases hs
theorem encB_smalls {l : List Stp} (h : ∀ s ∈ l, goodS s = 0) : smalls (l.map encB) := by
  intro x hx
  obtain ⟨s, hs, rfl⟩ := List.mem_map.1 hx
  show (encS s).toArray.size ≤ _
  rw [List.size_toArray]
  have := encS_length (h s hs)
  omega
set_option maxRecDepth 100000 in
set_option maxHeartbeats 3200000 in
theorem headGrows_walk {w : World} (ht : Tab w) (l : List Stp) (v : Value) (hr : rdT w v l) (n : Int) (hn : -9223372036854775808 ≤ n ∧ n ≤ 9223372036854775807) :
    Calls Tryd.prog 6 #[v, .int .i64 n] w fun e w' => e = .returned (.bool true) ∧ Below w.heap.size w w' := by
  have HT := Lib.hid ht
  have HR := Lib.hid (fun wr (h : Below w.heap.size w wr) => hr.below h)
  have HB0 := Lib.hid (Below.refl w.heap.size w)
  have hof := of_any l v w hr ht
  have HTO := Lib.hid (fun k (hk : k ≤ l.length) => rdT_to hr k hk)
  obtain ⟨a1, a2, rfl⟩ := rdT_form hr
  obtain ⟨⟨⟨an, ra⟩, e0⟩, hq⟩ : ∃ q, q = ofF l := ⟨_, rfl⟩
  rw [← hq] at hof
  have HA := Lib.hid hq
  clear ht hr hq
  go_enter Tryd.func6, Tryd.ntmps6
  go_wp2_with fail
  (with_reducible refine (hof).mono ?_)
  rintro e w1 ⟨rfl, hb⟩
  have HB1 := Lib.hid (HB0.out.trans (hb.mono HB0.out.size))
  have HL1 := Lib.hid hb
  clear hb
  clear hof HL1
  by_cases hz : e0 = 0
  · subst hz
    obtain ⟨hl, hg, ho⟩ := ofF_ok (l := l) (by rw [← HA.out])
    rw [← HA.out] at ho
    simp only [Prod.mk.injEq, and_true] at ho
    obtain ⟨rfl, rfl⟩ := ho
    have HG := Lib.hid hg
    have HLL := Lib.hid hl
    have hli : (l.length : Int) ≤ 200 := by omega
    have hl0 : (0 : Int) ≤ (l.length : Int) := by omega
    obtain ⟨m, hm, hpk⟩ := pick_in n l.length hn.1 hn.2 (by omega)
    have HM := Lib.hid hm
    have HPK := Lib.hid hpk
    obtain ⟨ra, hra⟩ : ∃ r, r = rootF (l.map encB) := ⟨_, rfl⟩
    have HRA := Lib.hid hra
    rw [← hra]
    obtain ⟨rs, hrs⟩ : ∃ r, r = rootF ((l.take m).map encB) := ⟨_, rfl⟩
    have HRS := Lib.hid hrs
    have HEX := Lib.hid (show extF rs (m : Int) ra (l.length : Int) (proofF (l.map encB) m) = true by
      have := ext_proof (l := l.map encB) (m := m) (by rw [List.length_map]; exact hm) (by rw [List.length_map]; omega)
      rw [List.length_map] at this
      rw [hrs, hra, List.map_take]; exact this)
    have hw1 : wrap64 ((l.length : Int) + 1) = (l.length : Int) + 1 := IntWalk.wrap64_in _ (by omega)
    have hgq := heap_alloc_new w1 (.cells #[.int .i64 (l.length : Int), .string ra] 41)
    have hba : Below w1.heap.size w1 (w1.alloc (.cells #[.int .i64 (l.length : Int), .string ra] 41)) := (Below.refl _ _).alloc (Nat.le_refl _) _
    have HB2 := Lib.hid (HB1.out.trans (hba.mono HB1.out.size))
    obtain ⟨qa, hqa⟩ : ∃ q, q = w1.heap.size := ⟨_, rfl⟩
    rw [← hqa] at hgq
    have HGA2 := Lib.hid hgq
    obtain ⟨vt, hvt, hrt⟩ := HTO.out m HM.out
    have HVT := Lib.hid hvt
    have HOS := Lib.hid (show ofF (l.take m) = (((m : Int), rs), 0) by
      have := ofF_of (l := l.take m) (by rw [List.length_take]; have := HLL.out; omega) (fun s hs => HG.out s (List.mem_of_mem_take hs))
      rw [this, hrs]
      rw [List.length_take, Nat.min_eq_left HM.out])
    have HRT := Lib.hid (fun wr (h : Below w.heap.size w wr) => hrt.below h)
    have HLV := Lib.hid (leavesF_of HG.out)
    clear hm hpk hl hg hra hrs hba hgq hvt hrt
    go_wp2_with fail
    rw [← hqa]
    clear hqa
    (with_reducible refine (heads_any _ (HT.out.below HB2.out)).mono ?_)
    rintro e w3 ⟨rfl, hb⟩
    have HB3 := Lib.hid (HB2.out.trans (hb.mono HB2.out.size))
    have HGA3 := Lib.hid (blk_below HGA2.out hb)
    clear hb
    go_wp2_with fail
    (with_reducible refine (HPK.out _).mono ?_)
    rintro e w0 ⟨rfl, rfl⟩
    have hmi : (m : Int) ≤ (l.length : Int) := by have := HM.out; omega
    have hm0 : (0 : Int) ≤ (m : Int) := by omega
    have hof2 := of_any (l.take m) vt w3 (HRT.out _ HB3.out) (HT.out.below HB3.out)
    rw [HOS.out] at hof2
    go_wp2_with (refine wpList_slice (by rfl) 53 (.tmp 34) none (some (.tmp 35)) rfl (v' := vt) HVT.out ?_)
    (with_reducible refine hof2.mono ?_)
    rintro e w4 ⟨rfl, hb⟩
    have HB4 := Lib.hid (HB3.out.trans (hb.mono HB3.out.size))
    have HGA4 := Lib.hid (blk_below HGA3.out hb)
    have hgq := heap_alloc_new w4 (.cells #[.int .i64 (m : Int), .string rs] 41)
    have hba : Below w4.heap.size w4 (w4.alloc (.cells #[.int .i64 (m : Int), .string rs] 41)) := (Below.refl _ _).alloc (Nat.le_refl _) _
    have HB5 := Lib.hid (HB4.out.trans (hba.mono HB4.out.size))
    have HGA5 := Lib.hid (blk_below HGA4.out hba)
    obtain ⟨qs, hqs⟩ : ∃ q, q = w4.heap.size := ⟨_, rfl⟩
    rw [← hqs] at hgq
    have HGS5 := Lib.hid hgq
    have hlv := leaves_any l _ _ (HR.out _ HB5.out) (by have := HLL.out; omega)
    rw [HLV.out] at hlv
    clear hb hof2 hgq hba
    go_wp2_with fail
    rw [← hqs]
    (with_reducible refine hlv.mono ?_)
    rintro e w6 ⟨vl, rfl, hown, hb⟩
    have HGA6 := Lib.hid (blk_below HGA5.out hb)
    have HGS6 := Lib.hid (blk_below HGS5.out hb)
    have HB6 := Lib.hid (HB5.out.trans (hb.mono HB5.out.size))
    have HOW := Lib.hid hown
    clear hb hlv hown hqs
    have HB7 := Lib.hid HB6.out.drew
    have HGA7 := Lib.hid (show w6.drew.heap[qa]? = _ from HGA6.out)
    have HGS7 := Lib.hid (show w6.drew.heap[qs]? = _ from HGS6.out)
    have lle : ((l.length : Int) == (l.length : Int)) = true := beq_self_eq_true _
    have mme : ((m : Int) == (m : Int)) = true := beq_self_eq_true _
    have hpf := proof_any (l.map encB) vl m w6.drew (by rw [List.length_map]; have := HLL.out; omega) (by rw [List.length_map]; exact HM.out) (rdS_owns HOW.out.drew) (encB_smalls HG.out) (HT.out.below HB7.out)
    go_wp2_with fail
    refine Lone.wp_region_order [(0, false), (1, false), (2, false), (3, false), (4, false), (5, false), (6, false), (7, false), (8, false), (9, false), (10, false), (11, false), (12, false), (13, false), (14, false), (15, false), (16, false), (17, false), (18, false), (19, false), (20, false), (21, false), (22, false), (23, false), (24, false), (25, false), (26, false), (27, false), (28, false), (29, true), (30, true), (31, false), (32, false)] (fun w' => w'.cell? ⟨qa, 0, none⟩ = some (.int .i64 (l.length : Int)) ∧ w'.cell? ⟨qa, 1, none⟩ = some (.string ra) ∧ w'.cell? ⟨qs, 0, none⟩ = some (.int .i64 (m : Int)) ∧ w'.cell? ⟨qs, 1, none⟩ = some (.string rs)) (by kernel_rfl) (by kernel_rfl) rfl (by kernel_rfl) (by intro _ _ d _ _ h; cases d <;> exact h) ((let h := head_cells HGA7.out; let k := head_cells HGS7.out; ⟨h.1, h.2.1, k.1, k.2.1⟩)) ?_; simp only [List.map_cons, List.map_nil, List.getElem?_toArray, List.getElem?_cons_zero, List.getElem?_cons_succ, Option.getD_some]
    repeat (first | (refine Lone.ro_q (by rfl) (v := ?_) ?_ ?_; rotate_left; (focus (intro w' hSw; (try dsimp only at hSw); go_simp; try with_reducible rfl)); simp only [Act.put, List.setIfInBounds_toArray, List.set_cons_zero, List.set_cons_succ]) | (refine Lone.ro_skip (by rfl) ?_; simp only [Act.put, List.setIfInBounds_toArray, List.set_cons_zero, List.set_cons_succ]))
    (refine Lone.ro_loud (by rfl) (fun K hK => ?_); go_simp)
    (with_reducible refine hpf.mono ?_)
    rintro e w8 ⟨vp, rfl, hop, hb⟩
    have HGA8 := Lib.hid (blk_below HGA7.out hb)
    have HGS8 := Lib.hid (blk_below HGS7.out hb)
    have HB8 := Lib.hid (HB7.out.trans (hb.mono HB7.out.size))
    have HOP := Lib.hid hop
    clear hb hpf hop
    (refine hK.out _ _ (fun w' => w'.cell? ⟨qa, 0, none⟩ = some (.int .i64 (l.length : Int)) ∧ w'.cell? ⟨qa, 1, none⟩ = some (.string ra) ∧ w'.cell? ⟨qs, 0, none⟩ = some (.int .i64 (m : Int)) ∧ w'.cell? ⟨qs, 1, none⟩ = some (.string rs)) (.inl fun _ h => h) ((let h := head_cells HGA8.out; let k := head_cells HGS8.out; ⟨h.1, h.2.1, k.1, k.2.1⟩)) ?_; clear hK K; try simp only [Act.put, List.setIfInBounds_toArray, List.set_cons_zero, List.set_cons_succ])
    (refine Lone.ro_loud (by rfl) (fun K hK => ?_); go_simp)
    have hex := extends_any rs ra (m : Int) (l.length : Int) (proofF (l.map encB) m) vp w8 (by rw [HRS.out, root32]; omega) (rdS_owns HOP.out) (proof_smalls _ m) (HT.out.below HB8.out)
    rw [HEX.out] at hex
    (with_reducible refine hex.mono ?_)
    rintro e w9 ⟨rfl, hb⟩
    have HGA9 := Lib.hid (blk_below HGA8.out hb)
    have HGS9 := Lib.hid (blk_below HGS8.out hb)
    have HB9 := Lib.hid (HB8.out.trans (hb.mono HB8.out.size))
    clear hb hex
    (refine hK.out _ _ (fun w' => w'.cell? ⟨qa, 0, none⟩ = some (.int .i64 (l.length : Int)) ∧ w'.cell? ⟨qa, 1, none⟩ = some (.string ra) ∧ w'.cell? ⟨qs, 0, none⟩ = some (.int .i64 (m : Int)) ∧ w'.cell? ⟨qs, 1, none⟩ = some (.string rs)) (.inl fun _ h => h) ((let h := head_cells HGA9.out; let k := head_cells HGS9.out; ⟨h.1, h.2.1, k.1, k.2.1⟩)) ?_; clear hK K; try simp only [Act.put, List.setIfInBounds_toArray, List.set_cons_zero, List.set_cons_succ])
    repeat (first | (refine Lone.ro_q (by rfl) (v := ?_) ?_ ?_; rotate_left; (focus (intro w' hSw; (try dsimp only at hSw); go_simp; try with_reducible rfl)); simp only [Act.put, List.setIfInBounds_toArray, List.set_cons_zero, List.set_cons_succ]) | (refine Lone.ro_skip (by rfl) ?_; simp only [Act.put, List.setIfInBounds_toArray, List.set_cons_zero, List.set_cons_succ]))
    (refine Lone.ro_nil ?_; go_wp2_with fail)
    go_ret
    exact ⟨rfl, HB9.out⟩
  · have n1 : (e0 == 0) = false := beq_eq_false_iff_ne.2 hz
    have n2 : (e0 != 0) = true := by rw [bne, n1]; rfl
    have hbd := ofF_bad (l := l) (by rw [← HA.out]; exact hz)
    rw [← HA.out] at hbd
    simp only [Prod.mk.injEq] at hbd
    obtain ⟨rfl, rfl⟩ := hbd
    have zz2 : noB.toList.isEmpty = true := by rw [ByteArray.toList_eq]; rfl
    have HB2 := Lib.hid (HB1.out.alloc HB1.out.size (.cells #[.int .i64 0, .string noB] 41))
    clear hz
    go_wp2_with fail
    (with_reducible refine (heads_any _ (HT.out.below HB2.out)).mono ?_)
    rintro e w9 ⟨rfl, hb⟩
    have HB9 := Lib.hid (HB2.out.trans (hb.mono HB2.out.size))
    clear hb
    go_wp2_with fail
    go_ret
    exact ⟨rfl, HB9.out⟩
end Go.Proofs.YtinhjnbgblieeaaDoor
