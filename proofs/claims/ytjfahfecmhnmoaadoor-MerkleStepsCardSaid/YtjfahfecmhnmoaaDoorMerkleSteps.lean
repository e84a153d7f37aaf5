/- The walk of MerkleSteps. -/
import Derived.Test.YtjfahfecmhnmoaaDoorMerkleGrows
namespace Go.Proofs.YtjfahfecmhnmoaaDoor
open Go.RowKit
set_option linter.unusedVariables false
set_option linter.unusedSimpArgs false

theorem steps_law (l : List ByteArray) (x y : Nat) (hx : x ≤ y) (hy : y ≤ l.length) (hl : l.length ≤ 130) :
    extF (rootF (l.take x)) x (rootF (l.take y)) y (proofF (l.take y) x) = true ∧ extF (rootF (l.take y)) y (rootF l) l.length (proofF l y) = true ∧ extF (rootF (l.take x)) x (rootF l) l.length (proofF l x) = true := by
  refine ⟨?_, ext_proof hy (by omega), ext_proof (by omega) (by omega)⟩
  have hlen : (l.take y).length = y := by rw [List.length_take]; omega
  have h := ext_proof (l := l.take y) (m := x) (by omega) (by omega)
  rw [hlen, List.take_take, Nat.min_eq_left hx] at h
  exact h
set_option maxRecDepth 100000 in
set_option maxHeartbeats 3200000 in
theorem merkleSteps_walk {w : World} (ht : Tab w) (v0 : Value) (len0 : Nat) (z0 : List ByteArray) (f0 : rdRow w 1 v0 len0 (z0.map .string)) (g0 : ∀ s ∈ z0, s.size ≤ 140737488351232) (m0 : len0 * 16 ≤ 140737488351232) (i : Int) (hi : -9223372036854775808 ≤ i ∧ i ≤ 9223372036854775807) (k : Int) (hk : -9223372036854775808 ≤ k ∧ k ≤ 9223372036854775807) :
    Calls Tryd.prog 7 #[v0, .int .i64 i, .int .i64 k] w fun e w' => e = .returned (.bool true) ∧ Below w.heap.size w w' := by
  obtain ⟨hr, hs, hm⟩ := rdS_in f0 g0 m0
  have HF := Lib.hid (few_any z0 v0 w hr)
  obtain ⟨la, hla⟩ : ∃ la, la = z0.take 130 := ⟨_, rfl⟩
  have hl130 : la.length ≤ 130 := by rw [hla, List.length_take]; omega
  have hsm : smalls la := by rw [hla]; exact smalls_take hs 130
  rw [← hla] at HF
  have HT := Lib.hid ht
  have HS := Lib.hid hsm
  obtain ⟨hi1, hi2⟩ := hi
  obtain ⟨hk1, hk2⟩ := hk
  clear ht hr hs hm f0 g0 m0 hla hsm
  go_enter Tryd.func7, Tryd.ntmps7
  go_wp2_with fail
  (with_reducible refine HF.out.mono ?_)
  rintro e w1 ⟨v1, rfl, hown, hb⟩
  have hr1 := rdS_owns hown
  have HW1 := Lib.hid hb
  have HL1 := Lib.hid hb
  have HT1 := Lib.hid (HT.out.below hb)
  have HB1 := Lib.hid (Below.refl w1.heap.size w1)
  have HR1 := Lib.hid hr1
  have HOWN := Lib.hid hown
  clear hb hown HF HT HOWN
  obtain ⟨m, hml, hpi⟩ := pick_to i la.length hi1 hi2 (by omega)
  have HPI := Lib.hid hpi
  obtain ⟨n, hnl, hpk⟩ := pick_to k la.length hk1 hk2 (by omega)
  have HPK := Lib.hid hpk
  obtain ⟨vm, e2, r2⟩ := rdS_to hr1 m hml
  have EM := Lib.hid e2
  have RM := Lib.hid r2
  obtain ⟨vn, e3, r3⟩ := rdS_to hr1 n hnl
  have EN := Lib.hid e3
  have RN := Lib.hid r3
  obtain ⟨ao, cap, rfl⟩ := rdS_form hr1
  have HPROOF := Lib.hid (fun x w' (hx : x ≤ la.length) (hb : Below w1.heap.size w1 w') => proof_any la _ x w' hl130 hx (HR1.out.below hb) HS.out (HT1.out.below hb))
  have HPN := Lib.hid (fun x y u w' (hx : x ≤ y) (hy : y ≤ la.length) (hr : rdS w1 u (la.take y)) (hb : Below w1.heap.size w1 w') => proof_any (la.take y) u x w' (by rw [List.length_take]; omega) (by rw [List.length_take]; omega) (hr.below hb) (smalls_take HS.out y) (HT1.out.below hb))
  have HROOT := Lib.hid (fun y u w' (hr : rdS w1 u (la.take y)) (hb : Below w1.heap.size w1 w') => root_any 130 (la.take y) u w' (by rw [List.length_take]; omega) (by omega) (hr.below hb) (smalls_take HS.out y) (HT1.out.below hb))
  have HRO := Lib.hid (fun w' (hb : Below w1.heap.size w1 w') => root_any 130 la _ w' hl130 (by omega) (HR1.out.below hb) HS.out (HT1.out.below hb))
  have HX := Lib.hid (fun x y (hx : x ≤ y) (hy : y ≤ la.length) => steps_law la x y hx hy (by omega))
  have HNL := Lib.hid (And.intro hml hnl)
  obtain ⟨N, hN⟩ : ∃ N, N = la.length := ⟨_, rfl⟩
  rw [← hN] at hl130 HNL HPI HPK HRO HPROOF HPN HX EM EN ⊢
  clear hr1 hi1 hi2 hk1 hk2 hpi hpk e2 r2 e3 r3 hml hnl hN HR1
  go_wp2_with fail
  (with_reducible refine (HPI.out _).mono ?_)
  rintro e w0 ⟨rfl, rfl⟩
  go_wp2_with fail
  (with_reducible refine (HPK.out _).mono ?_)
  rintro e w0 ⟨rfl, rfl⟩
  by_cases hc : n < m
  · have HLE := Lib.hid (show n ≤ m by omega)
    have hgt : (n : Int) < (m : Int) := by omega
    clear hc
    have HRa := Lib.hid (fun w' hb => HROOT.out n vn w' RN.out hb)
    have HRb := Lib.hid (fun w' hb => HROOT.out m vm w' RM.out hb)
    have HPa := Lib.hid (fun w' hb => HPN.out n m vm w' HLE.out HNL.out.1 RM.out hb)
    have HPb := Lib.hid (fun w' hb => HPROOF.out m w' HNL.out.1 hb)
    have HPc := Lib.hid (fun w' hb => HPROOF.out n w' HNL.out.2 hb)
    obtain ⟨x1, x2, x3⟩ := HX.out n m HLE.out HNL.out.1
    have HSa := Lib.hid (proofF_small (la.take m) n)
    have HSb := Lib.hid (proofF_small la m)
    have HSc := Lib.hid (proofF_small la n)
    have HOa := Lib.hid (root32 (la.take n))
    have HOb := Lib.hid (root32 (la.take m))
    obtain ⟨ra, hra⟩ : ∃ r, r = rootF (la.take n) := ⟨_, rfl⟩
    obtain ⟨rb, hrb⟩ : ∃ r, r = rootF (la.take m) := ⟨_, rfl⟩
    obtain ⟨rc, hrc⟩ : ∃ r, r = rootF la := ⟨_, rfl⟩
    obtain ⟨qa, hqa⟩ : ∃ r, r = proofF (la.take m) n := ⟨_, rfl⟩
    obtain ⟨qb, hqb⟩ : ∃ r, r = proofF la m := ⟨_, rfl⟩
    obtain ⟨qc, hqc⟩ : ∃ r, r = proofF la n := ⟨_, rfl⟩
    rw [← hra] at HRa HOa x1 x3
    rw [← hrb] at HRb HOb x1 x2
    rw [← hrc] at HRO x2 x3
    rw [← hqa] at HPa HSa x1
    rw [← hqb] at HPb HSb x2
    rw [← hqc] at HPc HSc x3
    have X1 := Lib.hid x1
    have X2 := Lib.hid x2
    have X3 := Lib.hid x3
    clear x1 x2 x3 hra hrb hrc hqa hqb hqc HX HPROOF HPN HROOT
    go_wp2_with fail
    refine Lone.wp_region_order [(0, false), (1, false), (2, false), (4, false), (5, false), (6, false), (8, false), (3, true), (7, true), (9, true), (10, false), (11, false), (12, false)] (fun w' => True) (by kernel_rfl) (by kernel_rfl) rfl (by kernel_rfl) (by intro _ _ d _ _ h; cases d <;> exact h) (trivial) ?_; simp only [List.map_cons, List.map_nil, List.getElem?_toArray, List.getElem?_cons_zero, List.getElem?_cons_succ, Option.getD_some]
    repeat (first | (refine Lone.ro_q (by rfl) (v := ?_) ?_ ?_; rotate_left; (focus (intro w' hSw; (try dsimp only at hSw); go_simp; try with_reducible rfl)); simp only [Act.put, List.setIfInBounds_toArray, List.set_cons_zero, List.set_cons_succ]) | (refine Lone.ro_skip (by rfl) ?_; simp only [Act.put, List.setIfInBounds_toArray, List.set_cons_zero, List.set_cons_succ]))
    refine Lone.ro_q (by rfl) (v := vn) (fun w' hSw => by simp only [execOp, Act.eval, List.getElem?_toArray, List.getElem?_cons_zero, List.getElem?_cons_succ, Array.getD_eq_getD_getElem?, Option.getD_some, Option.map_some, Option.map_none, Sem.run_bind, EN.out, Result.andThen, Sem.run_pure]) ?_; simp only [Act.put, List.setIfInBounds_toArray, List.set_cons_zero, List.set_cons_succ]
    repeat (first | (refine Lone.ro_q (by rfl) (v := ?_) ?_ ?_; rotate_left; (focus (intro w' hSw; (try dsimp only at hSw); go_simp; try with_reducible rfl)); simp only [Act.put, List.setIfInBounds_toArray, List.set_cons_zero, List.set_cons_succ]) | (refine Lone.ro_skip (by rfl) ?_; simp only [Act.put, List.setIfInBounds_toArray, List.set_cons_zero, List.set_cons_succ]))
    refine Lone.ro_q (by rfl) (v := vm) (fun w' hSw => by simp only [execOp, Act.eval, List.getElem?_toArray, List.getElem?_cons_zero, List.getElem?_cons_succ, Array.getD_eq_getD_getElem?, Option.getD_some, Option.map_some, Option.map_none, Sem.run_bind, EM.out, Result.andThen, Sem.run_pure]) ?_; simp only [Act.put, List.setIfInBounds_toArray, List.set_cons_zero, List.set_cons_succ]
    repeat (first | (refine Lone.ro_q (by rfl) (v := ?_) ?_ ?_; rotate_left; (focus (intro w' hSw; (try dsimp only at hSw); go_simp; try with_reducible rfl)); simp only [Act.put, List.setIfInBounds_toArray, List.set_cons_zero, List.set_cons_succ]) | (refine Lone.ro_skip (by rfl) ?_; simp only [Act.put, List.setIfInBounds_toArray, List.set_cons_zero, List.set_cons_succ]))
    (refine Lone.ro_loud (by rfl) (fun K hK => ?_); go_simp)
    (with_reducible refine (HRa.out _ HB1.out.drew).mono ?_)
    rintro e w2 ⟨rfl, hb⟩
    have HB2 := Lib.hid (HB1.out.drew.trans (hb.mono HB1.out.drew.size))
    have HL2 := Lib.hid hb
    clear hb
    (refine hK.out _ _ (fun w' => True) (.inl fun _ h => h) (trivial) ?_; clear hK K; try simp only [Act.put, List.setIfInBounds_toArray, List.set_cons_zero, List.set_cons_succ])
    repeat (first | (refine Lone.ro_q (by rfl) (v := ?_) ?_ ?_; rotate_left; (focus (intro w' hSw; (try dsimp only at hSw); go_simp; try with_reducible rfl)); simp only [Act.put, List.setIfInBounds_toArray, List.set_cons_zero, List.set_cons_succ]) | (refine Lone.ro_skip (by rfl) ?_; simp only [Act.put, List.setIfInBounds_toArray, List.set_cons_zero, List.set_cons_succ]))
    (refine Lone.ro_loud (by rfl) (fun K hK => ?_); go_simp)
    (with_reducible refine (HRb.out _ HB2.out).mono ?_)
    rintro e w3 ⟨rfl, hb⟩
    have HB3 := Lib.hid (HB2.out.trans (hb.mono HB2.out.size))
    have HL3 := Lib.hid hb
    clear hb
    (refine hK.out _ _ (fun w' => True) (.inl fun _ h => h) (trivial) ?_; clear hK K; try simp only [Act.put, List.setIfInBounds_toArray, List.set_cons_zero, List.set_cons_succ])
    repeat (first | (refine Lone.ro_q (by rfl) (v := ?_) ?_ ?_; rotate_left; (focus (intro w' hSw; (try dsimp only at hSw); go_simp; try with_reducible rfl)); simp only [Act.put, List.setIfInBounds_toArray, List.set_cons_zero, List.set_cons_succ]) | (refine Lone.ro_skip (by rfl) ?_; simp only [Act.put, List.setIfInBounds_toArray, List.set_cons_zero, List.set_cons_succ]))
    (refine Lone.ro_loud (by rfl) (fun K hK => ?_); go_simp)
    (with_reducible refine (HRO.out _ HB3.out).mono ?_)
    rintro e w4 ⟨rfl, hb⟩
    have HB4 := Lib.hid (HB3.out.trans (hb.mono HB3.out.size))
    have HL4 := Lib.hid hb
    clear hb
    (refine hK.out _ _ (fun w' => True) (.inl fun _ h => h) (trivial) ?_; clear hK K; try simp only [Act.put, List.setIfInBounds_toArray, List.set_cons_zero, List.set_cons_succ])
    repeat (first | (refine Lone.ro_q (by rfl) (v := ?_) ?_ ?_; rotate_left; (focus (intro w' hSw; (try dsimp only at hSw); go_simp; try with_reducible rfl)); simp only [Act.put, List.setIfInBounds_toArray, List.set_cons_zero, List.set_cons_succ]) | (refine Lone.ro_skip (by rfl) ?_; simp only [Act.put, List.setIfInBounds_toArray, List.set_cons_zero, List.set_cons_succ]))
    refine Lone.ro_nil ?_
    go_wp2_with (first | (refine wpList_slice (by rfl) 22 (.tmp 41) none (some (.tmp 42)) rfl (v' := vm) EM.out ?_))
    (with_reducible refine (HPa.out _ HB4.out).mono ?_)
    rintro e w5 ⟨pa, rfl, hown, hb⟩
    have HB5 := Lib.hid (HB4.out.trans (hb.mono HB4.out.size))
    have HL5 := Lib.hid hb
    have HO5 := Lib.hid (owns_base hown HB4.out.size)
    clear hb hown
    go_wp2_with fail
    (with_reducible refine (extends_any ra rb n m qa _ _ (by rw [HOa.out]; decide) (rdS_owns HO5.out) HSa.out (HT1.out.below HB5.out)).mono ?_)
    rintro e w6 ⟨rfl, hb⟩
    rw [X1.out]
    have HB6 := Lib.hid (HB5.out.trans (hb.mono HB5.out.size))
    have HL6 := Lib.hid hb
    clear hb
    go_wp2_with fail
    (with_reducible refine (HPb.out _ HB6.out).mono ?_)
    rintro e w7 ⟨pb, rfl, hown, hb⟩
    have HB7 := Lib.hid (HB6.out.trans (hb.mono HB6.out.size))
    have HL7 := Lib.hid hb
    have HO7 := Lib.hid (owns_base hown HB6.out.size)
    clear hb hown
    go_wp2_with fail
    (with_reducible refine (extends_any rb rc m N qb _ _ (by rw [HOb.out]; decide) (rdS_owns HO7.out) HSb.out (HT1.out.below HB7.out)).mono ?_)
    rintro e w8 ⟨rfl, hb⟩
    rw [X2.out]
    have HB8 := Lib.hid (HB7.out.trans (hb.mono HB7.out.size))
    have HL8 := Lib.hid hb
    clear hb
    go_wp2_with fail
    (with_reducible refine (HPc.out _ HB8.out).mono ?_)
    rintro e w9 ⟨pc, rfl, hown, hb⟩
    have HB9 := Lib.hid (HB8.out.trans (hb.mono HB8.out.size))
    have HL9 := Lib.hid hb
    have HO9 := Lib.hid (owns_base hown HB8.out.size)
    clear hb hown
    go_wp2_with fail
    (with_reducible refine (extends_any ra rc n N qc _ _ (by rw [HOa.out]; decide) (rdS_owns HO9.out) HSc.out (HT1.out.below HB9.out)).mono ?_)
    rintro e w10 ⟨rfl, hb⟩
    rw [X3.out]
    have HB10 := Lib.hid (HB9.out.trans (hb.mono HB9.out.size))
    have HL10 := Lib.hid hb
    clear hb
    go_wp2_with fail
    (with_reducible refine (roots_any _ (HT1.out.below HB10.out)).mono ?_)
    rintro e w11 ⟨rfl, hb⟩
    have HB11 := Lib.hid (HB10.out.trans (hb.mono HB10.out.size))
    have HL11 := Lib.hid hb
    clear hb
    go_wp2_with fail
    go_ret
    exact ⟨rfl, HW1.out.trans (HB11.out.mono HW1.out.size)⟩
  · have HLE := Lib.hid (show m ≤ n by omega)
    have hgt : ¬ (n : Int) < (m : Int) := by omega
    clear hc
    have HRa := Lib.hid (fun w' hb => HROOT.out m vm w' RM.out hb)
    have HRb := Lib.hid (fun w' hb => HROOT.out n vn w' RN.out hb)
    have HPa := Lib.hid (fun w' hb => HPN.out m n vn w' HLE.out HNL.out.2 RN.out hb)
    have HPb := Lib.hid (fun w' hb => HPROOF.out n w' HNL.out.2 hb)
    have HPc := Lib.hid (fun w' hb => HPROOF.out m w' HNL.out.1 hb)
    obtain ⟨x1, x2, x3⟩ := HX.out m n HLE.out HNL.out.2
    have HSa := Lib.hid (proofF_small (la.take n) m)
    have HSb := Lib.hid (proofF_small la n)
    have HSc := Lib.hid (proofF_small la m)
    have HOa := Lib.hid (root32 (la.take m))
    have HOb := Lib.hid (root32 (la.take n))
    obtain ⟨ra, hra⟩ : ∃ r, r = rootF (la.take m) := ⟨_, rfl⟩
    obtain ⟨rb, hrb⟩ : ∃ r, r = rootF (la.take n) := ⟨_, rfl⟩
    obtain ⟨rc, hrc⟩ : ∃ r, r = rootF la := ⟨_, rfl⟩
    obtain ⟨qa, hqa⟩ : ∃ r, r = proofF (la.take n) m := ⟨_, rfl⟩
    obtain ⟨qb, hqb⟩ : ∃ r, r = proofF la n := ⟨_, rfl⟩
    obtain ⟨qc, hqc⟩ : ∃ r, r = proofF la m := ⟨_, rfl⟩
    rw [← hra] at HRa HOa x1 x3
    rw [← hrb] at HRb HOb x1 x2
    rw [← hrc] at HRO x2 x3
    rw [← hqa] at HPa HSa x1
    rw [← hqb] at HPb HSb x2
    rw [← hqc] at HPc HSc x3
    have X1 := Lib.hid x1
    have X2 := Lib.hid x2
    have X3 := Lib.hid x3
    clear x1 x2 x3 hra hrb hrc hqa hqb hqc HX HPROOF HPN HROOT
    go_wp2_with fail
    refine Lone.wp_region_order [(0, false), (1, false), (2, false), (4, false), (5, false), (6, false), (8, false), (3, true), (7, true), (9, true), (10, false), (11, false), (12, false)] (fun w' => True) (by kernel_rfl) (by kernel_rfl) rfl (by kernel_rfl) (by intro _ _ d _ _ h; cases d <;> exact h) (trivial) ?_; simp only [List.map_cons, List.map_nil, List.getElem?_toArray, List.getElem?_cons_zero, List.getElem?_cons_succ, Option.getD_some]
    repeat (first | (refine Lone.ro_q (by rfl) (v := ?_) ?_ ?_; rotate_left; (focus (intro w' hSw; (try dsimp only at hSw); go_simp; try with_reducible rfl)); simp only [Act.put, List.setIfInBounds_toArray, List.set_cons_zero, List.set_cons_succ]) | (refine Lone.ro_skip (by rfl) ?_; simp only [Act.put, List.setIfInBounds_toArray, List.set_cons_zero, List.set_cons_succ]))
    refine Lone.ro_q (by rfl) (v := vm) (fun w' hSw => by simp only [execOp, Act.eval, List.getElem?_toArray, List.getElem?_cons_zero, List.getElem?_cons_succ, Array.getD_eq_getD_getElem?, Option.getD_some, Option.map_some, Option.map_none, Sem.run_bind, EM.out, Result.andThen, Sem.run_pure]) ?_; simp only [Act.put, List.setIfInBounds_toArray, List.set_cons_zero, List.set_cons_succ]
    repeat (first | (refine Lone.ro_q (by rfl) (v := ?_) ?_ ?_; rotate_left; (focus (intro w' hSw; (try dsimp only at hSw); go_simp; try with_reducible rfl)); simp only [Act.put, List.setIfInBounds_toArray, List.set_cons_zero, List.set_cons_succ]) | (refine Lone.ro_skip (by rfl) ?_; simp only [Act.put, List.setIfInBounds_toArray, List.set_cons_zero, List.set_cons_succ]))
    refine Lone.ro_q (by rfl) (v := vn) (fun w' hSw => by simp only [execOp, Act.eval, List.getElem?_toArray, List.getElem?_cons_zero, List.getElem?_cons_succ, Array.getD_eq_getD_getElem?, Option.getD_some, Option.map_some, Option.map_none, Sem.run_bind, EN.out, Result.andThen, Sem.run_pure]) ?_; simp only [Act.put, List.setIfInBounds_toArray, List.set_cons_zero, List.set_cons_succ]
    repeat (first | (refine Lone.ro_q (by rfl) (v := ?_) ?_ ?_; rotate_left; (focus (intro w' hSw; (try dsimp only at hSw); go_simp; try with_reducible rfl)); simp only [Act.put, List.setIfInBounds_toArray, List.set_cons_zero, List.set_cons_succ]) | (refine Lone.ro_skip (by rfl) ?_; simp only [Act.put, List.setIfInBounds_toArray, List.set_cons_zero, List.set_cons_succ]))
    (refine Lone.ro_loud (by rfl) (fun K hK => ?_); go_simp)
    (with_reducible refine (HRa.out _ HB1.out.drew).mono ?_)
    rintro e w2 ⟨rfl, hb⟩
    have HB2 := Lib.hid (HB1.out.drew.trans (hb.mono HB1.out.drew.size))
    have HL2 := Lib.hid hb
    clear hb
    (refine hK.out _ _ (fun w' => True) (.inl fun _ h => h) (trivial) ?_; clear hK K; try simp only [Act.put, List.setIfInBounds_toArray, List.set_cons_zero, List.set_cons_succ])
    repeat (first | (refine Lone.ro_q (by rfl) (v := ?_) ?_ ?_; rotate_left; (focus (intro w' hSw; (try dsimp only at hSw); go_simp; try with_reducible rfl)); simp only [Act.put, List.setIfInBounds_toArray, List.set_cons_zero, List.set_cons_succ]) | (refine Lone.ro_skip (by rfl) ?_; simp only [Act.put, List.setIfInBounds_toArray, List.set_cons_zero, List.set_cons_succ]))
    (refine Lone.ro_loud (by rfl) (fun K hK => ?_); go_simp)
    (with_reducible refine (HRb.out _ HB2.out).mono ?_)
    rintro e w3 ⟨rfl, hb⟩
    have HB3 := Lib.hid (HB2.out.trans (hb.mono HB2.out.size))
    have HL3 := Lib.hid hb
    clear hb
    (refine hK.out _ _ (fun w' => True) (.inl fun _ h => h) (trivial) ?_; clear hK K; try simp only [Act.put, List.setIfInBounds_toArray, List.set_cons_zero, List.set_cons_succ])
    repeat (first | (refine Lone.ro_q (by rfl) (v := ?_) ?_ ?_; rotate_left; (focus (intro w' hSw; (try dsimp only at hSw); go_simp; try with_reducible rfl)); simp only [Act.put, List.setIfInBounds_toArray, List.set_cons_zero, List.set_cons_succ]) | (refine Lone.ro_skip (by rfl) ?_; simp only [Act.put, List.setIfInBounds_toArray, List.set_cons_zero, List.set_cons_succ]))
    (refine Lone.ro_loud (by rfl) (fun K hK => ?_); go_simp)
    (with_reducible refine (HRO.out _ HB3.out).mono ?_)
    rintro e w4 ⟨rfl, hb⟩
    have HB4 := Lib.hid (HB3.out.trans (hb.mono HB3.out.size))
    have HL4 := Lib.hid hb
    clear hb
    (refine hK.out _ _ (fun w' => True) (.inl fun _ h => h) (trivial) ?_; clear hK K; try simp only [Act.put, List.setIfInBounds_toArray, List.set_cons_zero, List.set_cons_succ])
    repeat (first | (refine Lone.ro_q (by rfl) (v := ?_) ?_ ?_; rotate_left; (focus (intro w' hSw; (try dsimp only at hSw); go_simp; try with_reducible rfl)); simp only [Act.put, List.setIfInBounds_toArray, List.set_cons_zero, List.set_cons_succ]) | (refine Lone.ro_skip (by rfl) ?_; simp only [Act.put, List.setIfInBounds_toArray, List.set_cons_zero, List.set_cons_succ]))
    refine Lone.ro_nil ?_
    go_wp2_with (first | (refine wpList_slice (by rfl) 22 (.tmp 41) none (some (.tmp 42)) rfl (v' := vn) EN.out ?_))
    (with_reducible refine (HPa.out _ HB4.out).mono ?_)
    rintro e w5 ⟨pa, rfl, hown, hb⟩
    have HB5 := Lib.hid (HB4.out.trans (hb.mono HB4.out.size))
    have HL5 := Lib.hid hb
    have HO5 := Lib.hid (owns_base hown HB4.out.size)
    clear hb hown
    go_wp2_with fail
    (with_reducible refine (extends_any ra rb m n qa _ _ (by rw [HOa.out]; decide) (rdS_owns HO5.out) HSa.out (HT1.out.below HB5.out)).mono ?_)
    rintro e w6 ⟨rfl, hb⟩
    rw [X1.out]
    have HB6 := Lib.hid (HB5.out.trans (hb.mono HB5.out.size))
    have HL6 := Lib.hid hb
    clear hb
    go_wp2_with fail
    (with_reducible refine (HPb.out _ HB6.out).mono ?_)
    rintro e w7 ⟨pb, rfl, hown, hb⟩
    have HB7 := Lib.hid (HB6.out.trans (hb.mono HB6.out.size))
    have HL7 := Lib.hid hb
    have HO7 := Lib.hid (owns_base hown HB6.out.size)
    clear hb hown
    go_wp2_with fail
    (with_reducible refine (extends_any rb rc n N qb _ _ (by rw [HOb.out]; decide) (rdS_owns HO7.out) HSb.out (HT1.out.below HB7.out)).mono ?_)
    rintro e w8 ⟨rfl, hb⟩
    rw [X2.out]
    have HB8 := Lib.hid (HB7.out.trans (hb.mono HB7.out.size))
    have HL8 := Lib.hid hb
    clear hb
    go_wp2_with fail
    (with_reducible refine (HPc.out _ HB8.out).mono ?_)
    rintro e w9 ⟨pc, rfl, hown, hb⟩
    have HB9 := Lib.hid (HB8.out.trans (hb.mono HB8.out.size))
    have HL9 := Lib.hid hb
    have HO9 := Lib.hid (owns_base hown HB8.out.size)
    clear hb hown
    go_wp2_with fail
    (with_reducible refine (extends_any ra rc m N qc _ _ (by rw [HOa.out]; decide) (rdS_owns HO9.out) HSc.out (HT1.out.below HB9.out)).mono ?_)
    rintro e w10 ⟨rfl, hb⟩
    rw [X3.out]
    have HB10 := Lib.hid (HB9.out.trans (hb.mono HB9.out.size))
    have HL10 := Lib.hid hb
    clear hb
    go_wp2_with fail
    (with_reducible refine (roots_any _ (HT1.out.below HB10.out)).mono ?_)
    rintro e w11 ⟨rfl, hb⟩
    have HB11 := Lib.hid (HB10.out.trans (hb.mono HB10.out.size))
    have HL11 := Lib.hid hb
    clear hb
    go_wp2_with fail
    go_ret
    exact ⟨rfl, HW1.out.trans (HB11.out.mono HW1.out.size)⟩
end Go.Proofs.YtjfahfecmhnmoaaDoor
