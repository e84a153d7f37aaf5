/- The walks of package head's Good, Text and Read. -/
import Derived.Test.YtinhjnbgblieeaaDoorHeadLaw
import Derived.Test.YtinhjnbgblieeaaDoorStrs
import Derived.Test.YtinhjnbgblieeaaDoorHeap
import Derived.Test.YtinhjnbgblieeaaDoorWrUse
namespace Go.Proofs.YtinhjnbgblieeaaDoor
open Go.RowKit
set_option linter.unusedVariables false
set_option linter.unusedSimpArgs false

theorem goodH_1 {n : Int} {r : ByteArray} (h : n < 0 ∨ 200 < n) : goodH n r = 3 := by unfold goodH; rw [if_pos h]
theorem goodH_2 {n : Int} {r : ByteArray} (h : ¬ (n < 0 ∨ 200 < n)) (h2 : r.size ≠ 32) : goodH n r = 2 := by unfold goodH; rw [if_neg h, if_pos h2]
theorem goodH_3 {n : Int} {r : ByteArray} (h : ¬ (n < 0 ∨ 200 < n)) (h2 : r.size = 32) : goodH n r = 0 := by unfold goodH; rw [if_neg h, if_neg (by omega)]
theorem head_cells {w : World} {n : Nat} {a b : Value} (h : w.heap[n]? = some (.cells #[a, b] 41 (0, 0))) :
    w.cell? ⟨n, 0, none⟩ = some a ∧ w.cell? ⟨n, 1, none⟩ = some b ∧ w.frozen? ⟨n, 0, none⟩ = false ∧ w.frozen? ⟨n, 1, none⟩ = false := by
  simp [World.cell?, World.frozen?, h]
set_option maxRecDepth 100000 in
set_option maxHeartbeats 3200000 in
theorem goodHead_any (n : Int) (r : ByteArray) (w : World) :
    Calls Tryd.prog 18 #[.agg #[.int .i64 n, .string r]] w fun e w' => e = .returned (.int .i64 (goodH n r)) ∧ Below w.heap.size w w' := by
  obtain ⟨F, hF⟩ : ∃ F, F = goodH n r := ⟨_, rfl⟩
  rw [← hF]
  have HF := Lib.hid hF
  have HW0 := Lib.hid ((Below.refl w.heap.size w).alloc (Nat.le_refl _) (.cells #[.int .i64 n, .string r] 41))
  clear hF
  by_cases h0 : n < 0
  · have f0 : decide (n < 0) = true := decide_eq_true h0
    have hF := HF.out.trans (goodH_1 (.inl h0))
    subst hF
    go_enter Tryd.func18, Tryd.ntmps18
    go_wp2_with fail
    go_ret
    exact ⟨rfl, HW0.out⟩
  · have f0 : decide (n < 0) = false := decide_eq_false h0
    by_cases h1 : 200 < n
    · have f1 : decide (200 < n) = true := decide_eq_true h1
      have hF := HF.out.trans (goodH_1 (.inr h1))
      subst hF
      go_enter Tryd.func18, Tryd.ntmps18
      go_wp2_with fail
      go_ret
      exact ⟨rfl, HW0.out⟩
    · have f1 : decide (200 < n) = false := decide_eq_false h1
      by_cases h2 : r.size = 32
      · have f2 : ((r.size : Int) == 32) = true := by rw [h2]; rfl
        have f3 : ((r.size : Int) != 32) = false := by rw [bne, f2]; rfl
        have hF := HF.out.trans (goodH_3 (by omega) h2)
        subst hF
        clear h2
        go_enter Tryd.func18, Tryd.ntmps18
        go_wp2_with fail
        go_ret
        exact ⟨rfl, HW0.out⟩
      · have f2 : ((r.size : Int) == 32) = false := beq_eq_false_iff_ne.2 (by omega)
        have f3 : ((r.size : Int) != 32) = true := by rw [bne, f2]; rfl
        have hF := HF.out.trans (goodH_2 (by omega) h2)
        subst hF
        go_enter Tryd.func18, Tryd.ntmps18
        go_wp2_with fail
        go_ret
        exact ⟨rfl, HW0.out⟩
theorem textF_bad {n : Int} {r : ByteArray} (h : goodH n r ≠ 0) : textF n r = (noB, goodH n r) := by unfold textF; rw [if_pos h]
set_option maxRecDepth 100000 in
set_option maxHeartbeats 3200000 in
theorem textHead_any (n : Int) (r : ByteArray) (w : World) :
    Calls Tryd.prog 22 #[.agg #[.int .i64 n, .string r]] w fun e w' => e = .returned (.tuple #[.string (textF n r).1, .int .i64 (textF n r).2]) ∧ Below w.heap.size w w' := by
  obtain ⟨F, hF⟩ : ∃ F, F = textF n r := ⟨_, rfl⟩
  rw [← hF]
  have HF := Lib.hid hF
  obtain ⟨W, hW⟩ : ∃ W, w.alloc (.cells #[.int .i64 n, .string r] 41) = W := ⟨_, rfl⟩
  have hg0 : W.heap[w.heap.size]? = some (.cells #[.int .i64 n, .string r] 41 (0, 0)) := by rw [← hW]; exact heap_alloc_new _ _
  have HG := Lib.hid (fun wr (h : Below W.heap.size W wr) => blk_below hg0 h)
  have HW0 := Lib.hid (show Below w.heap.size w W by rw [← hW]; exact (Below.refl _ _).alloc (Nat.le_refl _) _)
  obtain ⟨c0, c1, _, _⟩ := head_cells hg0
  clear hF hg0
  have hgd := goodHead_any n r W
  obtain ⟨ge, hge⟩ : ∃ ge, ge = goodH n r := ⟨_, rfl⟩
  rw [← hge] at hgd
  have HGE := Lib.hid hge
  clear hge
  go_enter Tryd.func22, Tryd.ntmps22
  go_wp2_with fail
  (with_reducible refine hgd.mono ?_)
  rintro e w0 ⟨rfl, hb⟩
  have HB0 := Lib.hid hb
  clear hb hgd c0 c1 hW
  by_cases hz : ge = 0
  · subst hz
    have hF := HF.out.trans (textF_ok HGE.out.symm)
    subst hF
    obtain ⟨E, hE⟩ : ∃ E, E = enc n.toNat ++ r.data.toList := ⟨_, rfl⟩
    have HBD := Lib.hid (goodH_ok HGE.out.symm)
    have hn0 : 0 ≤ n := HBD.out.1
    have hn1 : n ≤ 200 := HBD.out.2.1
    have HBIG := Lib.hid (show E.length ≤ 4000 by rw [hE, List.length_append, toList_length, HBD.out.2.2]; have := enc_len9 n.toNat (by omega); omega)
    have HE2 := Lib.hid (show E = [] ++ (enc n.toNat ++ (r.data.toList ++ [])) by rw [List.append_nil]; exact hE)
    have HHB := Lib.hid (show headB n r = ⟨E.toArray⟩ by rw [hE]; rfl)
    obtain ⟨w1, hw1⟩ : ∃ w1, w1 = w0 := ⟨_, rfl⟩
    obtain ⟨X, hX⟩ : ∃ X, w0.alloc (.cells #[.slice none 0 0, .int .i64 0] 76) = X := ⟨_, rfl⟩
    have hbx : Below w0.heap.size w0 X := by rw [← hX]; exact (Below.refl _ _).alloc (Nat.le_refl _) _
    have HB2 := Lib.hid (HB0.out.trans (hbx.mono HB0.out.size))
    have HBG := Lib.hid HB0.out.size
    have HS2 := Lib.hid (show WrSt X W.heap.size w0.heap.size (.slice none 0 0) [] 0 from ⟨by rw [← hX]; exact heap_alloc_new _ _, World.ownsRow_nil _ _ _ _, by simp [Value.ownBlock], HB2.out.size⟩)
    clear hE hbx hw1
    have HWGE := Lib.hid hX
    obtain ⟨c0, c1, _, _⟩ := head_cells (HG.out _ HB2.out)
    have HC3 := Lib.hid (wNumber_good HS2.out (n) (by omega) (by omega) (by have h := HBIG.out; rw [HE2.out, List.length_append] at h; omega))
    go_wp2_with fail
    (with_reducible refine HC3.out.mono ?_)
    rintro e w3 hto
    obtain ⟨rfl, v3, hs3, hb3, hx3⟩ := hto.use HBG.out HS2.out
    have HB3 := Lib.hid (HB2.out.trans hb3)
    have HS3 := Lib.hid hs3
    have HX3 := Lib.hid hx3
    have HE3 := Lib.hid (HE2.out.trans (List.append_assoc _ _ _).symm)
    clear hs3 hb3 hx3 HC3 hto
    clear c0 c1
    obtain ⟨c0, c1, _, _⟩ := head_cells (HG.out _ HB3.out)
    have HC4 := Lib.hid (wBytes_good HS3.out r (by have h := HBIG.out; rw [HE3.out, List.length_append] at h; have := HBD.out.2.2; omega))
    go_wp2_with fail
    (with_reducible refine HC4.out.mono ?_)
    rintro e w4 hto
    obtain ⟨rfl, v4, hs4, hb4, hx4⟩ := hto.use HBG.out HS3.out
    have HB4 := Lib.hid (HB3.out.trans hb4)
    have HS4 := Lib.hid hs4
    have HX4 := Lib.hid hx4
    have HE4 := Lib.hid (HE3.out.trans (List.append_assoc _ _ _).symm)
    clear hs4 hb4 hx4 HC4 hto
    clear c0 c1
    obtain ⟨c0, c1, _, _⟩ := head_cells (HG.out _ HB4.out)
    have HEE := Lib.hid (HE4.out.trans (List.append_nil _))
    have hfin := HS4.out
    rw [← HEE.out] at hfin
    have HDN := Lib.hid (wDone_any (st := (E, 0)) hfin)
    rw [show doneV (E, (0 : Int)) = .tuple #[.string ⟨E.toArray⟩, .int .i64 0] from rfl] at HDN
    obtain ⟨z, hz⟩ : ∃ z : ByteArray, z = ⟨E.toArray⟩ := ⟨_, rfl⟩
    rw [← hz] at HDN
    have HZ := Lib.hid hz
    clear hfin hz
    go_wp2_with fail
    (with_reducible refine HDN.out.mono ?_)
    rintro e wd ⟨rfl, q, rfl⟩
    have HBE := Lib.hid (HW0.out.trans ((below_drewN HB4.out q).mono HW0.out.size))
    go_wp2_with fail
    go_ret2
    exact ⟨by rw [HHB.out, ← HZ.out]; rfl, HBE.out⟩
  · have n1 : (ge == 0) = false := beq_eq_false_iff_ne.2 hz
    have n2 : (ge != 0) = true := by rw [bne, n1]; rfl
    have hF := HF.out.trans (textF_bad (by rw [← HGE.out]; exact hz))
    rw [← HGE.out] at hF
    subst hF
    clear hz
    go_wp2_with fail
    go_ret2
    exact ⟨rfl, HW0.out.trans (HB0.out.mono HW0.out.size)⟩
theorem readF_e {b : ByteArray} (h : (hrdB b).2.2 ≠ 0) : hreadF b = ((0, noB), 2) := by unfold hreadF; rw [if_pos (.inl h)]
theorem readF_l {b : ByteArray} (h : 0 < (hrdB b).2.1.size) : hreadF b = ((0, noB), 2) := by unfold hreadF; rw [if_pos (.inr h)]
theorem readF_g {b : ByteArray} (h : (hrdB b).2.2 = 0) (h1 : (hrdB b).2.1.size = 0) : hreadF b = if goodH (hrdA b).1 (hrdB b).1 ≠ 0 then ((0, noB), goodH (hrdA b).1 (hrdB b).1) else ((((hrdA b).1 : Int), (hrdB b).1), 0) := by
  unfold hreadF; rw [if_neg (by rw [h, h1]; simp)]
theorem rByt_le' (x : ByteArray × Int) (n : Int) : (rByt x n).2.1.size ≤ x.1.size := by
  unfold rByt
  split
  · exact Nat.le_refl _
  · split
    · exact Nat.le_refl _
    · simp only [ByteArray.size_extract]; omega
theorem rNum_le' (x : ByteArray × Int) : (rNum x).2.1.size ≤ x.1.size := by
  unfold rNum
  split
  · exact Nat.le_refl _
  · split
    · exact Nat.le_refl _
    · simp only [ByteArray.size_extract]; omega
set_option maxRecDepth 100000 in
set_option maxHeartbeats 3200000 in
theorem readHead_any (b : ByteArray) (w : World) (hs : b.size ≤ 9223372036854775807) (hs2 : b.size ≤ 4611686018427387904) :
    Calls Tryd.prog 28 #[.string b] w fun e w' => e = .returned (.tuple #[.agg #[.int .i64 (hreadF b).1.1, .string (hreadF b).1.2], .int .i64 (hreadF b).2]) ∧ Below w.heap.size w w' := by
  obtain ⟨F, hF⟩ : ∃ F, F = hreadF b := ⟨_, rfl⟩
  rw [← hF]
  have HF := Lib.hid hF
  clear hF
  obtain ⟨W, hW⟩ : ∃ W, w.alloc (.cells #[.int .i64 0, .string ⟨#[]⟩] 41) = W := ⟨_, rfl⟩
  have gR0 : W.heap[w.heap.size]? = some (.cells #[.int .i64 0, .string ⟨#[]⟩] 41 (0, 0)) := by rw [← hW]; exact heap_alloc_new _ _
  have hb1 : Below w.heap.size w W := by rw [← hW]; exact (Below.refl _ _).alloc (Nat.le_refl _) _
  have HW0 := Lib.hid hb1
  have HGR := Lib.hid (fun wr (h : Below W.heap.size W wr) => blk_below gR0 h)
  have HRDA := Lib.hid (read_any b W)
  clear hb1 gR0
  go_enter Tryd.func28, Tryd.ntmps28
  go_wp2_with fail
  (with_reducible refine HRDA.out.mono ?_)
  rintro e w1 ⟨rfl, hr1, hb1, hz1⟩
  have HB1 := Lib.hid hb1
  have HN1 := Lib.hid (rNumber_any hr1 (by show b.size ≤ _; unfold maxLen; omega))
  have hle1 := rNum_le' (b, 0)
  obtain ⟨⟨K, st1⟩, hq1⟩ : ∃ q, q = hrdA b := ⟨_, rfl⟩
  rw [show rNum (b, 0) = hrdA b from rfl, ← hq1] at HN1 hle1
  have HQ1 := Lib.hid hq1
  have hle2 := rByt_le' st1 32
  obtain ⟨⟨R, st2⟩, hq2⟩ : ∃ q, q = hrdB b := ⟨_, rfl⟩
  have hq3 : rByt st1 32 = (R, st2) := by rw [hq2]; unfold hrdB; rw [← hq1]
  rw [hq3] at hle2
  obtain ⟨sb, er⟩ := st2
  have HQ2 := Lib.hid hq2
  have HQ3 := Lib.hid hq3
  have HLE := Lib.hid (show st1.1.size ≤ 4611686018427387904 from Nat.le_trans hle1 hs2)
  have HSB := Lib.hid (show sb.size ≤ 9223372036854775807 from Nat.le_trans hle2 (Nat.le_trans hle1 (by show b.size ≤ _; omega)))
  obtain ⟨g, hgd⟩ : ∃ g, W.heap.size = g := ⟨_, rfl⟩
  rw [hgd] at HN1 hr1 hz1 ⊢
  clear hW hr1 hq1 hq2 hq3 hle1 hle2 HRDA hb1
  go_wp2_with fail
  (with_reducible refine HN1.out.mono ?_)
  rintro e w2 ⟨rfl, hr2, hu2⟩
  have HB2 := Lib.hid (HB1.out.trans (hu2.below (by omega) (fun k hk => by omega)))
  have hby := rBytes_any hr2 HLE.out 32
  rw [HQ3.out] at hby
  have HBY := Lib.hid hby
  clear hu2 hby
  go_wp2_with fail
  (with_reducible refine HBY.out.mono ?_)
  rintro e w3 ⟨rfl, hr3, hu3⟩
  have HB3 := Lib.hid (HB2.out.trans (hu3.below (by have := HB2.out.size; omega) (fun k hk => by omega)))
  clear hu3 hr2
  have hbx : Below w3.heap.size w3 (w3.alloc (.cells #[.int .i64 (K : Int), .string R] 41)) := (Below.refl _ _).alloc (Nat.le_refl _) _
  have hgx : (w3.alloc (.cells #[.int .i64 (K : Int), .string R] 41)).heap[w3.heap.size]? = some (.cells #[.int .i64 (K : Int), .string R] 41 (0, 0)) := heap_alloc_new _ _
  have HB4 := Lib.hid (HB3.out.trans (hbx.mono HB3.out.size))
  have hr4 := hr3.below hbx
  have HBD := Lib.hid (rBad_any hr4)
  have HLF := Lib.hid (rLeft_any hr4)
  clear hr3 hbx
  skip
  go_wp2_with fail
  (with_reducible refine HBD.out.mono ?_)
  rintro e w0 ⟨rfl, rfl⟩
  have gx4 := hgx
  have HG4 := Lib.hid hgx
  clear gx4
  obtain ⟨w4, hw4⟩ : ∃ w4, w3.alloc (.cells #[.int .i64 (K : Int), .string R] 41) = w4 := ⟨_, rfl⟩
  rw [hw4] at HB4 HG4 hr4 HLF hgx ⊢
  obtain ⟨x0, x1, _, _⟩ := head_cells hgx
  clear HBD hgx hw4
  by_cases her : er = 0
  · subst her
    by_cases hl : 0 < sb.size
    · have hF : F = ((0, noB), 2) := by rw [HF.out]; exact readF_l (by rw [← HQ2.out]; exact hl)
      subst hF
      have h1 : decide ((0 : Int) < (sb.size : Int)) = true := decide_eq_true (by omega)
      have h2 : decide (0 < sb.size) = true := decide_eq_true hl
      clear hl
      go_wp2_with fail
      (with_reducible refine HLF.out.mono ?_)
      rintro e w0 ⟨rfl, rfl⟩
      have gR := HGR.out _ HB4.out
      go_wp2_with (refine wpList_store_blk (by rfl) 41 (.tmp 2) (.tmp 22) rfl w.heap.size #[.int .i64 0, .string ⟨#[]⟩] rfl rfl (old := _) gR (by kernel_rfl) rfl (by simp [Value.oneCell']) ?_; intro wz gz uz)
      obtain ⟨r0, r1, _, _⟩ := head_cells gz
      refine bodyPost_ret (v := .tuple #[.agg #[.int .i64 0, .string ⟨#[]⟩], .int .i64 (2)]) ?_ rfl ⟨rfl, below_upd (HW0.out.trans (HB4.out.mono HW0.out.size)) uz (Nat.le_refl _) (by have := HW0.out.size; have := HB4.out.size; omega)⟩
      simp [results, Tryd.f28, go_sem, r0, r1]
    · have hF := HF.out.trans (readF_g (by rw [← HQ2.out]) (by rw [← HQ2.out]; show sb.size = 0; omega))
      have h1 : decide ((0 : Int) < (sb.size : Int)) = false := decide_eq_false (by omega)
      have h2 : decide (0 < sb.size) = false := decide_eq_false hl
      rw [← HQ2.out, ← HQ1.out] at hF
      have hgd := goodHead_any (K : Int) R w4
      obtain ⟨ge, hge⟩ : ∃ ge, ge = goodH (K : Int) R := ⟨_, rfl⟩
      simp only at hF
      rw [← hge] at hgd hF
      have HFG := Lib.hid hF
      clear hl hge hF
      go_wp2_with fail
      (with_reducible refine HLF.out.mono ?_)
      rintro e w0 ⟨rfl, rfl⟩
      go_wp2_with fail
      (with_reducible refine hgd.mono ?_)
      rintro e w5 ⟨rfl, hb⟩
      have HB5 := Lib.hid (HB4.out.trans (hb.mono HB4.out.size))
      have HG5 := Lib.hid (blk_below HG4.out hb)
      clear hb hgd x0 x1
      by_cases hz : ge = 0
      · have hF := HFG.out.trans (if_neg (by simpa using hz))
        subst hF hz
        obtain ⟨x0, x1, _, _⟩ := head_cells HG5.out
        have gR := HGR.out _ HB5.out
        go_wp2_with (refine wpList_store_blk (by rfl) 41 (.tmp 2) (.tmp 29) rfl w.heap.size #[.int .i64 (K : Int), .string R] rfl rfl (old := _) gR (by kernel_rfl) rfl (by simp [Value.oneCell']) ?_; intro wz gz uz)
        obtain ⟨r0, r1, _, _⟩ := head_cells gz
        refine bodyPost_ret (v := .tuple #[.agg #[.int .i64 (K : Int), .string R], .int .i64 (0)]) ?_ rfl ⟨rfl, below_upd (HW0.out.trans (HB5.out.mono HW0.out.size)) uz (Nat.le_refl _) (by have := HW0.out.size; have := HB5.out.size; omega)⟩
        simp [results, Tryd.f28, go_sem, r0, r1]
      · have hF := HFG.out.trans (if_pos hz)
        subst hF
        have n1 : (ge == 0) = false := beq_eq_false_iff_ne.2 hz
        have n2 : (ge != 0) = true := by rw [bne, n1]; rfl
        clear hz
        have gR := HGR.out _ HB5.out
        go_wp2_with (refine wpList_store_blk (by rfl) 41 (.tmp 2) (.tmp 27) rfl w.heap.size #[.int .i64 0, .string ⟨#[]⟩] rfl rfl (old := _) gR (by kernel_rfl) rfl (by simp [Value.oneCell']) ?_; intro wz gz uz)
        obtain ⟨r0, r1, _, _⟩ := head_cells gz
        refine bodyPost_ret (v := .tuple #[.agg #[.int .i64 0, .string ⟨#[]⟩], .int .i64 (ge)]) ?_ rfl ⟨rfl, below_upd (HW0.out.trans (HB5.out.mono HW0.out.size)) uz (Nat.le_refl _) (by have := HW0.out.size; have := HB5.out.size; omega)⟩
        simp [results, Tryd.f28, go_sem, r0, r1]
  · have h1 : (er == 0) = false := beq_eq_false_iff_ne.2 her
    have h2 : (er != 0) = true := by rw [bne, h1]; rfl
    have hF : F = ((0, noB), 2) := by rw [HF.out]; exact readF_e (by rw [← HQ2.out]; exact her)
    subst hF
    clear her
    have gR := HGR.out _ HB4.out
    go_wp2_with (refine wpList_store_blk (by rfl) 41 (.tmp 2) (.tmp 22) rfl w.heap.size #[.int .i64 0, .string ⟨#[]⟩] rfl rfl (old := _) gR (by kernel_rfl) rfl (by simp [Value.oneCell']) ?_; intro wz gz uz)
    obtain ⟨r0, r1, _, _⟩ := head_cells gz
    refine bodyPost_ret (v := .tuple #[.agg #[.int .i64 0, .string ⟨#[]⟩], .int .i64 (2)]) ?_ rfl ⟨rfl, below_upd (HW0.out.trans (HB4.out.mono HW0.out.size)) uz (Nat.le_refl _) (by have := HW0.out.size; have := HB4.out.size; omega)⟩
    simp [results, Tryd.f28, go_sem, r0, r1]
end Go.Proofs.YtinhjnbgblieeaaDoor
