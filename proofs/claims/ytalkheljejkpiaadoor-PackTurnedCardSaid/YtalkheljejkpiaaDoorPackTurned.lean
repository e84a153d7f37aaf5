/- The walk of PackTurned. -/
import Derived.Test.YtalkheljejkpiaaDoorPack5
import Derived.Test.YtalkheljejkpiaaDoorMer
namespace Go.Proofs.YtalkheljejkpiaaDoor
open Go.RowKit
set_option linter.unusedVariables false
set_option linter.unusedSimpArgs false

set_option maxRecDepth 100000 in
set_option maxHeartbeats 3200000 in
theorem packTurned_walk {w : World} (ht : Tab w) (v0 : Value) (len0 : Nat) (z0 : List ByteArray) (f0 : rdRow w 1 v0 len0 (z0.map .string)) (g0 : ∀ s ∈ z0, s.size ≤ 140737488351232) (m0 : len0 * 16 ≤ 140737488351232) (v1 : Value) (len1 : Nat) (z1 : List ByteArray) (f1 : rdRow w 1 v1 len1 (z1.map .string)) (g1 : ∀ s ∈ z1, s.size ≤ 140737488351232) (m1 : len1 * 16 ≤ 140737488351232) (a2 : Int) (f2 : -9223372036854775808 ≤ a2 ∧ a2 ≤ 9223372036854775807) (a3 : Int) (f3 : 0 ≤ a3 ∧ a3 ≤ 255) :
    Calls Tryd.prog 4 #[v0, v1, .int .i64 a2, .int .u8 a3] w fun e w' => e = .returned (.bool true) ∧ Below w.heap.size w w' := by
  have HT := Lib.hid (fun wr (h : Below w.heap.size w wr) => ht.below h)
  obtain ⟨hr0, hs0, hm0⟩ := rdS_in f0 g0 m0
  obtain ⟨hr1, hs1, hm1⟩ := rdS_in f1 g1 m1
  have HR0 := Lib.hid (fun wr (h : Below w.heap.size w wr) => hr0.below h)
  have HR1 := Lib.hid (fun wr (h : Below w.heap.size w wr) => hr1.below h)
  have HS1 := Lib.hid hs1
  have HC1 := Lib.hid (write_any z0 z1 v0 v1 w hr0 hr1 hs0 hs1 ht)
  obtain ⟨⟨s, e0⟩, hq⟩ : ∃ q, q = writeF sumF z0 z1 := ⟨_, rfl⟩
  rw [← hq] at HC1
  have HQ := Lib.hid hq.symm
  have HB0 := Lib.hid (Below.refl w.heap.size w)
  have HM0 := Lib.hid hm0
  have HM1 := Lib.hid hm1
  obtain ⟨a1, a2_, rfl⟩ := rd_form hr0
  obtain ⟨b1, b2, rfl⟩ := rd_form hr1
  clear f0 g0 m0 f1 g1 m1 hr0 hs0 hm0 hr1 hs1 hm1 ht hq
  go_enter Tryd.func4, Tryd.ntmps4
  have HC := Lib.hid HC1.out
  clear HC1
  go_wp2_with fail
  (with_reducible refine HC.out.mono ?_)
  rintro e w1 ⟨rfl, hb⟩
  have HB1 := Lib.hid (HB0.out.trans hb)
  clear HC hb
  by_cases he : e0 = 0
  · subst he
    have HSZ := Lib.hid (show s.size ≤ 140737488355328 ∧ 34 ≤ s.size by
      obtain ⟨h1, h2, h3, h4⟩ := writeF_ok sumF HQ.out
      have h5 := write_size sumF sumF_size HQ.out
      have h6 := sizeP_bound h3 z0.length (Nat.le_refl _)
      rw [List.take_length] at h6
      have h7 := packB_size sumF z1 z0
      have h8 : s.size = (packB sumF z1 z0).size + 32 := by rw [h4, ByteArray.size_append, sumF_size]
      omega)
    have HF2 := Lib.hid f2
    have HF3 := Lib.hid f3
    clear f2 f3
    have HC := Lib.hid (packs_any w1 (HT.out _ HB1.out))
    go_wp2_with fail
    (with_reducible refine HC.out.mono ?_)
    rintro e w2 ⟨rfl, hb⟩
    have HB2 := Lib.hid (HB1.out.trans (hb.mono HB1.out.size))
    clear HC hb
    have t1 : decide ((s.size : Int) < 33) = false := decide_eq_false (by have := HSZ.out; omega)
    have t2 : decide (s.size < 33) = false := decide_eq_false (by have := HSZ.out; omega)
    have hpk := pick_any a2 s.size w2 HF2.out.1 HF2.out.2 (by have := HSZ.out; omega) (by have := HSZ.out; omega)
    have hpl := pick_law a2 s.size (by have := HSZ.out; omega)
    obtain ⟨r, hr⟩ : ∃ r : Nat, (r : Int) = a2 % (s.size : Int) := ⟨(a2 % (s.size : Int)).toNat, by omega⟩
    rw [← hr] at hpk hpl
    have HRS := Lib.hid (show r < s.size by omega)
    have HPK := Lib.hid hpk
    clear hpk hpl hr
    go_wp2_with fail
    (with_reducible refine HPK.out.mono ?_)
    rintro e wq ⟨rfl, rfl⟩
    clear t1 t2 HPK
    have HTN := Lib.hid (turned_any s r a3 w2 HRS.out HSZ.out.1 HF3.out.1 (by have := HF3.out.2; omega))
    go_wp2_with fail
    (with_reducible refine HTN.out.mono ?_)
    rintro e w3 ⟨⟨t, hts, rfl⟩, hb⟩
    have HB3 := Lib.hid (HB2.out.trans (hb.mono HB2.out.size))
    have HTS := Lib.hid hts
    clear hb HTN hts
    have HRD := Lib.hid (read_any' t z1 _ w3 (by rw [HTS.out]; exact HSZ.out.1) (HR1.out _ HB3.out) HS1.out (HT.out _ HB3.out))
    have HTU := Lib.hid (read_turned sumF (t := t) (out := z1) (by rw [HTS.out]; have := HSZ.out; omega))
    obtain ⟨⟨l, f⟩, hf⟩ : ∃ q, q = readF sumF t z1 := ⟨_, rfl⟩
    rw [← hf] at HRD HTU
    clear hf
    go_wp2_with fail
    (with_reducible refine HRD.out.mono ?_)
    rintro e w4 ⟨v, rfl, hr, hb⟩
    have HB4 := Lib.hid (HB3.out.trans (hb.mono HB3.out.size))
    have HBd := Lib.hid (below_drew HB4.out)
    obtain ⟨v1_, v2_, rfl⟩ := rd_form hr
    clear hb hr HRD
    have hs33 : 34 ≤ (s.size : Int) := by have := HSZ.out; omega
    have hsb : (s.size : Int) ≤ 140737488355328 := by have := HSZ.out; omega
    obtain ⟨en, hen⟩ : ∃ en, en = t.size - 32 := ⟨_, rfl⟩
    have hE : (s.size : Int) - 32 = (en : Int) := by have := HSZ.out; have := HTS.out; omega
    have hEl : en ≤ t.size := by omega
    have hpos : 0 < t.size := by have := HSZ.out; have := HTS.out; omega
    obtain ⟨x1, hx1⟩ : ∃ x, t.extract 0 en = x := ⟨_, rfl⟩
    obtain ⟨x2, hx2⟩ : ∃ x, t.extract en t.size = x := ⟨_, rfl⟩
    have hB0 : t.data.toList.getD 0 0 = t[0] := by
      rw [List.getD, List.getElem?_eq_getElem (by rw [toList_length]; exact hpos)]
      exact getElem_toList t 0 hpos
    have HTU2 := Lib.hid (show f = 5 ∨ (f = 2 ∧ t[0] ≠ 80) ∨ sumF x1 = x2 by have h := HTU.out; rw [hB0] at h; rw [← hx1, ← hx2, hen]; exact h)
    obtain ⟨y1, hy1⟩ : ∃ y, y = sumF x1 := ⟨_, rfl⟩
    have HSM := Lib.hid (fun wr (h : Below w.heap.size w wr) => sum_any x1 wr (HT.out wr h))
    rw [← hy1] at HSM HTU2
    clear hB0 HTU hy1 hen
    by_cases h5 : f = 5
    · have n1 : (f == 5) = true := by rw [h5]; rfl
      clear h5
      go_wp2_with fail
      refine Lone.wp_region_order [(0, false), (1, false), (2, false), (3, false), (4, false), (5, false), (6, false), (7, false), (8, false), (9, false), (10, false), (11, false), (12, false), (13, false), (14, false), (16, false), (17, false), (18, false), (15, true), (19, false), (20, false), (21, false), (22, true), (23, false), (24, false)] (fun _ => True) (by kernel_rfl) (by kernel_rfl) rfl (by kernel_rfl) (by intro _ _ d _ _ h; cases d <;> exact h) (trivial) ?_; simp only [List.map_cons, List.map_nil, List.getElem?_toArray, List.getElem?_cons_zero, List.getElem?_cons_succ, Option.getD_some]
      repeat (first | (refine Lone.ro_q (by rfl) (v := ?_) ?_ ?_; rotate_left; (focus (intro w' hSw; (try dsimp only at hSw); go_simp; try with_reducible rfl)); simp only [Act.put, List.setIfInBounds_toArray, List.set_cons_zero, List.set_cons_succ]) | (refine Lone.ro_skip (by rfl) ?_; simp only [Act.put, List.setIfInBounds_toArray, List.set_cons_zero, List.set_cons_succ]))
      (refine Lone.ro_skipL (by rfl) trivial ?_; simp only [Act.put, List.setIfInBounds_toArray, List.set_cons_zero, List.set_cons_succ])
      repeat (first | (refine Lone.ro_q (by rfl) (v := ?_) ?_ ?_; rotate_left; (focus (intro w' hSw; (try dsimp only at hSw); go_simp; try with_reducible rfl)); simp only [Act.put, List.setIfInBounds_toArray, List.set_cons_zero, List.set_cons_succ]) | (refine Lone.ro_skip (by rfl) ?_; simp only [Act.put, List.setIfInBounds_toArray, List.set_cons_zero, List.set_cons_succ]))
      (refine Lone.ro_loud (by rfl) (fun K hK => ?_); go_simp)
      (with_reducible refine (packs_any _ (HT.out _ HBd.out)).mono ?_)
      rintro e w9 ⟨rfl, hb⟩
      have HB9 := Lib.hid (HBd.out.trans (hb.mono HBd.out.size))
      clear hb
      (refine hK.out _ _ (fun _ => True) (.inl fun _ h => h) (trivial) ?_; clear hK K; try simp only [Act.put, List.setIfInBounds_toArray, List.set_cons_zero, List.set_cons_succ])
      repeat (first | (refine Lone.ro_q (by rfl) (v := ?_) ?_ ?_; rotate_left; (focus (intro w' hSw; (try dsimp only at hSw); go_simp; try with_reducible rfl)); simp only [Act.put, List.setIfInBounds_toArray, List.set_cons_zero, List.set_cons_succ]) | (refine Lone.ro_skip (by rfl) ?_; simp only [Act.put, List.setIfInBounds_toArray, List.set_cons_zero, List.set_cons_succ]))
      (refine Lone.ro_nil ?_; go_wp2_with fail)
      go_ret
      exact ⟨rfl, HB9.out⟩
    · have n1 : (f == 5) = false := beq_eq_false_iff_ne.2 h5
      by_cases h2 : f = 2
      · have n2 : (f == 2) = true := by rw [h2]; rfl
        by_cases h8 : t[0] = 80
        · have m1 : ((t[0].toNat : Int) == 80) = true := by rw [h8]; rfl
          have m2 : ((t[0].toNat : Int) != 80) = false := by rw [bne, m1]; rfl
          have hs : y1 = x2 := by
            rcases HTU2.out with h | ⟨h, h'⟩ | h
            · exact absurd h h5
            · exact absurd h8 h'
            · exact h
          have q1 : (y1.toList == x2.toList) = true := by rw [hs]; exact beq_yes _
          clear hs h5 h2 h8
          go_wp2_with fail
          refine Lone.wp_region_order [(0, false), (1, false), (2, false), (3, false), (4, false), (5, false), (6, false), (7, false), (8, false), (9, false), (10, false), (11, false), (12, false), (13, false), (14, false), (16, false), (17, false), (18, false), (15, true), (19, false), (20, false), (21, false), (22, true), (23, false), (24, false)] (fun _ => True) (by kernel_rfl) (by kernel_rfl) rfl (by kernel_rfl) (by intro _ _ d _ _ h; cases d <;> exact h) (trivial) ?_; simp only [List.map_cons, List.map_nil, List.getElem?_toArray, List.getElem?_cons_zero, List.getElem?_cons_succ, Option.getD_some]
          repeat (first | (refine Lone.ro_q (by rfl) (v := ?_) ?_ ?_; rotate_left; (focus (intro w' hSw; (try dsimp only at hSw); go_simp; try with_reducible rfl)); simp only [Act.put, List.setIfInBounds_toArray, List.set_cons_zero, List.set_cons_succ]) | (refine Lone.ro_skip (by rfl) ?_; simp only [Act.put, List.setIfInBounds_toArray, List.set_cons_zero, List.set_cons_succ]))
          (refine Lone.ro_loud (by rfl) (fun K hK => ?_); go_simp)
          (with_reducible refine (HSM.out _ HBd.out).mono ?_)
          rintro e w8 ⟨rfl, hb⟩
          have HB8 := Lib.hid (HBd.out.trans (hb.mono HBd.out.size))
          clear hb
          (refine hK.out _ _ (fun _ => True) (.inl fun _ h => h) (trivial) ?_; clear hK K; try simp only [Act.put, List.setIfInBounds_toArray, List.set_cons_zero, List.set_cons_succ])
          repeat (first | (refine Lone.ro_q (by rfl) (v := ?_) ?_ ?_; rotate_left; (focus (intro w' hSw; (try dsimp only at hSw); go_simp; try with_reducible rfl)); simp only [Act.put, List.setIfInBounds_toArray, List.set_cons_zero, List.set_cons_succ]) | (refine Lone.ro_skip (by rfl) ?_; simp only [Act.put, List.setIfInBounds_toArray, List.set_cons_zero, List.set_cons_succ]))
          (refine Lone.ro_loud (by rfl) (fun K hK => ?_); go_simp)
          (with_reducible refine (packs_any _ (HT.out _ HB8.out)).mono ?_)
          rintro e w9 ⟨rfl, hb⟩
          have HB9 := Lib.hid (HB8.out.trans (hb.mono HB8.out.size))
          clear hb
          (refine hK.out _ _ (fun _ => True) (.inl fun _ h => h) (trivial) ?_; clear hK K; try simp only [Act.put, List.setIfInBounds_toArray, List.set_cons_zero, List.set_cons_succ])
          repeat (first | (refine Lone.ro_q (by rfl) (v := ?_) ?_ ?_; rotate_left; (focus (intro w' hSw; (try dsimp only at hSw); go_simp; try with_reducible rfl)); simp only [Act.put, List.setIfInBounds_toArray, List.set_cons_zero, List.set_cons_succ]) | (refine Lone.ro_skip (by rfl) ?_; simp only [Act.put, List.setIfInBounds_toArray, List.set_cons_zero, List.set_cons_succ]))
          (refine Lone.ro_nil ?_; go_wp2_with fail)
          go_ret
          exact ⟨rfl, HB9.out⟩
        · have m1 : ((t[0].toNat : Int) == 80) = false := beq_eq_false_iff_ne.2 (fun e => h8 (UInt8.toNat_inj.1 (by have h80 : (80 : UInt8).toNat = 80 := rfl; omega)))
          have m2 : ((t[0].toNat : Int) != 80) = true := by rw [bne, m1]; rfl
          clear h5 h2 h8
          go_wp2_with fail
          refine Lone.wp_region_order [(0, false), (1, false), (2, false), (3, false), (4, false), (5, false), (6, false), (7, false), (8, false), (9, false), (10, false), (11, false), (12, false), (13, false), (14, false), (16, false), (17, false), (18, false), (15, true), (19, false), (20, false), (21, false), (22, true), (23, false), (24, false)] (fun _ => True) (by kernel_rfl) (by kernel_rfl) rfl (by kernel_rfl) (by intro _ _ d _ _ h; cases d <;> exact h) (trivial) ?_; simp only [List.map_cons, List.map_nil, List.getElem?_toArray, List.getElem?_cons_zero, List.getElem?_cons_succ, Option.getD_some]
          repeat (first | (refine Lone.ro_q (by rfl) (v := ?_) ?_ ?_; rotate_left; (focus (intro w' hSw; (try dsimp only at hSw); go_simp; try with_reducible rfl)); simp only [Act.put, List.setIfInBounds_toArray, List.set_cons_zero, List.set_cons_succ]) | (refine Lone.ro_skip (by rfl) ?_; simp only [Act.put, List.setIfInBounds_toArray, List.set_cons_zero, List.set_cons_succ]))
          (refine Lone.ro_skipL (by rfl) trivial ?_; simp only [Act.put, List.setIfInBounds_toArray, List.set_cons_zero, List.set_cons_succ])
          repeat (first | (refine Lone.ro_q (by rfl) (v := ?_) ?_ ?_; rotate_left; (focus (intro w' hSw; (try dsimp only at hSw); go_simp; try with_reducible rfl)); simp only [Act.put, List.setIfInBounds_toArray, List.set_cons_zero, List.set_cons_succ]) | (refine Lone.ro_skip (by rfl) ?_; simp only [Act.put, List.setIfInBounds_toArray, List.set_cons_zero, List.set_cons_succ]))
          (refine Lone.ro_loud (by rfl) (fun K hK => ?_); go_simp)
          (with_reducible refine (packs_any _ (HT.out _ HBd.out)).mono ?_)
          rintro e w9 ⟨rfl, hb⟩
          have HB9 := Lib.hid (HBd.out.trans (hb.mono HBd.out.size))
          clear hb
          (refine hK.out _ _ (fun _ => True) (.inl fun _ h => h) (trivial) ?_; clear hK K; try simp only [Act.put, List.setIfInBounds_toArray, List.set_cons_zero, List.set_cons_succ])
          repeat (first | (refine Lone.ro_q (by rfl) (v := ?_) ?_ ?_; rotate_left; (focus (intro w' hSw; (try dsimp only at hSw); go_simp; try with_reducible rfl)); simp only [Act.put, List.setIfInBounds_toArray, List.set_cons_zero, List.set_cons_succ]) | (refine Lone.ro_skip (by rfl) ?_; simp only [Act.put, List.setIfInBounds_toArray, List.set_cons_zero, List.set_cons_succ]))
          (refine Lone.ro_nil ?_; go_wp2_with fail)
          go_ret
          exact ⟨rfl, HB9.out⟩
      · have n2 : (f == 2) = false := beq_eq_false_iff_ne.2 h2
        have hs : y1 = x2 := by
          rcases HTU2.out with h | ⟨h, h'⟩ | h
          · exact absurd h h5
          · exact absurd h h2
          · exact h
        have q1 : (y1.toList == x2.toList) = true := by rw [hs]; exact beq_yes _
        clear hs h5 h2
        go_wp2_with fail
        refine Lone.wp_region_order [(0, false), (1, false), (2, false), (3, false), (4, false), (5, false), (6, false), (7, false), (8, false), (9, false), (10, false), (11, false), (12, false), (13, false), (14, false), (16, false), (17, false), (18, false), (15, true), (19, false), (20, false), (21, false), (22, true), (23, false), (24, false)] (fun _ => True) (by kernel_rfl) (by kernel_rfl) rfl (by kernel_rfl) (by intro _ _ d _ _ h; cases d <;> exact h) (trivial) ?_; simp only [List.map_cons, List.map_nil, List.getElem?_toArray, List.getElem?_cons_zero, List.getElem?_cons_succ, Option.getD_some]
        repeat (first | (refine Lone.ro_q (by rfl) (v := ?_) ?_ ?_; rotate_left; (focus (intro w' hSw; (try dsimp only at hSw); go_simp; try with_reducible rfl)); simp only [Act.put, List.setIfInBounds_toArray, List.set_cons_zero, List.set_cons_succ]) | (refine Lone.ro_skip (by rfl) ?_; simp only [Act.put, List.setIfInBounds_toArray, List.set_cons_zero, List.set_cons_succ]))
        (refine Lone.ro_loud (by rfl) (fun K hK => ?_); go_simp)
        (with_reducible refine (HSM.out _ HBd.out).mono ?_)
        rintro e w8 ⟨rfl, hb⟩
        have HB8 := Lib.hid (HBd.out.trans (hb.mono HBd.out.size))
        clear hb
        (refine hK.out _ _ (fun _ => True) (.inl fun _ h => h) (trivial) ?_; clear hK K; try simp only [Act.put, List.setIfInBounds_toArray, List.set_cons_zero, List.set_cons_succ])
        repeat (first | (refine Lone.ro_q (by rfl) (v := ?_) ?_ ?_; rotate_left; (focus (intro w' hSw; (try dsimp only at hSw); go_simp; try with_reducible rfl)); simp only [Act.put, List.setIfInBounds_toArray, List.set_cons_zero, List.set_cons_succ]) | (refine Lone.ro_skip (by rfl) ?_; simp only [Act.put, List.setIfInBounds_toArray, List.set_cons_zero, List.set_cons_succ]))
        (refine Lone.ro_loud (by rfl) (fun K hK => ?_); go_simp)
        (with_reducible refine (packs_any _ (HT.out _ HB8.out)).mono ?_)
        rintro e w9 ⟨rfl, hb⟩
        have HB9 := Lib.hid (HB8.out.trans (hb.mono HB8.out.size))
        clear hb
        (refine hK.out _ _ (fun _ => True) (.inl fun _ h => h) (trivial) ?_; clear hK K; try simp only [Act.put, List.setIfInBounds_toArray, List.set_cons_zero, List.set_cons_succ])
        repeat (first | (refine Lone.ro_q (by rfl) (v := ?_) ?_ ?_; rotate_left; (focus (intro w' hSw; (try dsimp only at hSw); go_simp; try with_reducible rfl)); simp only [Act.put, List.setIfInBounds_toArray, List.set_cons_zero, List.set_cons_succ]) | (refine Lone.ro_skip (by rfl) ?_; simp only [Act.put, List.setIfInBounds_toArray, List.set_cons_zero, List.set_cons_succ]))
        (refine Lone.ro_nil ?_; go_wp2_with fail)
        go_ret
        exact ⟨rfl, HB9.out⟩
  · have n1 : (e0 == 0) = false := beq_eq_false_iff_ne.2 he
    have n2 : (e0 != 0) = true := by rw [bne, n1]; rfl
    clear he
    have HC := Lib.hid (packs_any w1 (HT.out _ HB1.out))
    go_wp2_with fail
    (with_reducible refine HC.out.mono ?_)
    rintro e w2 ⟨rfl, hb⟩
    have HB2 := Lib.hid (HB1.out.trans (hb.mono HB1.out.size))
    clear HC hb
    go_wp2_with fail
    go_ret
    exact ⟨rfl, HB2.out⟩
end Go.Proofs.YtalkheljejkpiaaDoor
