/- The closure of package disk's Rename. -/
import Derived.Test.YtnggcldpojebkaaDisk6
namespace Go.Proofs.Ytnggcldpojebkaa
open Go.RowKit
set_option linter.unusedVariables false
set_option linter.unusedSimpArgs false

theorem renameO_1 {l : List Fil} {a n : ByteArray} (h : namedD n = false) : renameO namedD a n l = (l, 2) := by unfold renameO; rw [if_pos h]
theorem renameO_2 {l : List Fil} {a n : ByteArray} (h : namedD n = true) (h2 : fget a l = none) : renameO namedD a n l = (l, 7) := by
  unfold renameO; rw [if_neg (by rw [h]; decide), h2]
theorem renameO_3 {l : List Fil} {a n : ByteArray} {f : Fil} (h : namedD n = true) (h2 : fget a l = some f) : renameO namedD a n l = (fput ⟨n, f.safe, f.tail⟩ (fdel a l), 0) := by
  unfold renameO; rw [if_neg (by rw [h]; decide), h2]
theorem three_set0 {w : World} {g : Nat} {x y z u : Value} {t : TypeId} (h : w.heap[g]? = some (.cells #[x, y, z] t (0, 0))) : (w.setCell ⟨g, 0, none⟩ u).heap[g]? = some (.cells #[u, y, z] t (0, 0)) := by
  have hset := setCell_eq_setRow w g 0 #[x, y, z] t (0, 0) u h
  have hh := setRow_heap w g #[x, y, z] (#[x, y, z].setIfInBounds 0 u) t (0, 0) h
  rw [← hset] at hh
  exact hh
theorem lt_of_lt_own {w : World} {base : Nat} {e : TypeId} {size g n m cap : Nat} {xs : List Value} (h : w.ownsRow base e size (.slice (some ⟨g, 0, none⟩) n cap) m xs) : g < w.heap.size := (h.lt g rfl).2
theorem three_of {w : World} {b : Nat} {x y z : Value} {t : TypeId} (h : w.heap[b]? = some (.cells #[x, y, z] t (0, 0))) : w.cell? ⟨b, 0, none⟩ = some x ∧ w.cell? ⟨b, 1, none⟩ = some y ∧ w.cell? ⟨b, 2, none⟩ = some z := by
  refine ⟨?_, ?_, ?_⟩ <;> simp [World.cell?, h]
set_option maxRecDepth 100000 in
set_option maxHeartbeats 3200000 in
theorem renameC (w0 : World) (l : List Fil) (frm to : ByteArray) (tb ab : Nat) (hgood : GoodL namedD l) (htb : w0.cell? ⟨tb, 0, none⟩ = some (.string to)) (hab : w0.cell? ⟨ab, 0, none⟩ = some (.string frm)) :
    CloOk 39 #[.pointer (some ⟨tb, 0, none⟩), .pointer (some ⟨ab, 0, none⟩)] w0 l (renameO namedD frm to l) := by
  intro W B gb v fu hB hwB hBW hge hG hO
  show Calls Try.prog _ #[.pointer (some ⟨gb, 0, none⟩), .pointer (some ⟨tb, 0, none⟩), .pointer (some ⟨ab, 0, none⟩)] W _
  have htlt := World.block_lt_of_cell? w0 _ htb
  have n0 : W.cell? ⟨tb, 0, none⟩ = some (.string to) := (hB.cell (p := ⟨tb, 0, none⟩) htlt).trans htb
  have HTBB := Lib.hid (fun w' (h : Below B W w') => (h.cell (p := ⟨tb, 0, none⟩) (Nat.lt_of_lt_of_le htlt hwB)).trans n0)
  have halt := World.block_lt_of_cell? w0 _ hab
  have HABB := Lib.hid (fun w' (h : Below B W w') => (h.cell (p := ⟨ab, 0, none⟩) (Nat.lt_of_lt_of_le halt hwB)).trans ((hB.cell (p := ⟨ab, 0, none⟩) halt).trans hab))
  have HGB := Lib.hid (fun w' (h : Below W.heap.size W w') => blk_below hG h)
  have HOW := Lib.hid (fun w' (h : Below W.heap.size W w') => owns_below hO h)
  obtain ⟨ao, cp, rfl⟩ := rd_form (rdRow_of_owns hO)
  have HGD := Lib.hid hgood
  have hl := hgood.len
  have HFI := Lib.hid (fun w' (h : Below W.heap.size W w') => find_any l frm _ fu w' hgood.srt (rdF_owns (HOW.out _ h)) (by omega))
  have HNM := Lib.hid (namedD_any to W)
  obtain ⟨c0, c1, z0, z1⟩ := cell_of_two hG
  have HBW := Lib.hid hBW
  have HNB := Lib.hid (fun w' (h : Below W.heap.size W w') => HABB.out w' (h.mono HBW.out))
  have HGE := Lib.hid hge
  obtain ⟨r, hr⟩ : ∃ r, r = renameO namedD frm to l := ⟨_, rfl⟩
  rw [← hr]
  have HR := Lib.hid hr
  obtain ⟨k, hk⟩ : ∃ k, k = fidx frm l := ⟨_, rfl⟩
  have HK := Lib.hid hk
  rw [← hk] at HFI
  obtain ⟨nm, hnm⟩ : ∃ nm, nm = namedD to := ⟨_, rfl⟩
  rw [← hnm] at HNM
  have HNMD := Lib.hid hnm.symm
  clear htlt halt hgood hr hk hwB hB htb hab hBW hge hnm
  go_enter Try.func39, Try.ntmps39
  go_wp2_with fail
  (with_reducible refine HNM.out.mono ?_)
  rintro e wn ⟨rfl, hbn⟩
  have HBN := Lib.hid hbn
  clear hbn c0 c1 z0 z1 n0 HNM
  obtain ⟨c0, c1, z0, z1⟩ := cell_of_two (HGB.out _ HBN.out)
  have n0 := HNB.out _ HBN.out
  cases nm with
  | false =>
    have hr1 := HR.out.trans (renameO_1 HNMD.out)
    subst hr1
    go_wp2_with fail
    go_ret
    first | exact ⟨rfl, HBN.out.mono HBW.out, fun h => by cases h⟩ | exact ⟨rfl, HBN.out.mono HBW.out⟩
  | true =>
    cases hg : fget frm l with
    | none =>
      rw [hg] at HFI
      have hr1 := HR.out.trans (renameO_2 HNMD.out hg)
      subst hr1
      clear hg
      go_wp2_with fail
      refine Lone.wp_region_order [(0, false), (1, false), (2, false), (3, false), (4, true), (5, false), (6, false), (7, false), (8, false), (9, false)] (fun w' => w'.cell? ⟨gb, 0, none⟩ = some (.slice ao l.length cp) ∧ w'.cell? ⟨gb, 1, none⟩ = some (.int .i64 fu) ∧ w'.cell? ⟨ab, 0, none⟩ = some (.string frm)) (by kernel_rfl) (by kernel_rfl) rfl (by kernel_rfl) (by intro _ _ d _ _ h; cases d <;> exact h) (⟨c0, c1, n0⟩) ?_; simp only [List.map_cons, List.map_nil, List.getElem?_toArray, List.getElem?_cons_zero, List.getElem?_cons_succ, Option.getD_some]
      repeat (first | (refine Lone.ro_q (by rfl) (v := ?_) ?_ ?_; rotate_left; (focus (intro w' hSw; (try dsimp only at hSw); go_simp; try with_reducible rfl)); simp only [Act.put, List.setIfInBounds_toArray, List.set_cons_zero, List.set_cons_succ]) | (refine Lone.ro_skip (by rfl) ?_; simp only [Act.put, List.setIfInBounds_toArray, List.set_cons_zero, List.set_cons_succ]))
      (refine Lone.ro_loud (by rfl) (fun K hK => ?_); go_simp)
      (with_reducible refine (HFI.out _ (HBN.out).drew).mono ?_)
      rintro e w1 ⟨rfl, hb1⟩
      have HB1 := Lib.hid (show Below W.heap.size W w1 from (HBN.out).drew.trans (hb1.mono (HBN.out).size))
      clear hb1 c0 c1 z0 z1 n0
      obtain ⟨c0, c1, z0, z1⟩ := cell_of_two (HGB.out _ HB1.out)
      have n0 := HNB.out _ HB1.out
      (refine hK.out _ _ (fun w' => w'.cell? ⟨gb, 0, none⟩ = some (.slice ao l.length cp) ∧ w'.cell? ⟨gb, 1, none⟩ = some (.int .i64 fu) ∧ w'.cell? ⟨ab, 0, none⟩ = some (.string frm)) (.inl fun _ h => h) (⟨c0, c1, n0⟩) ?_; clear hK K; try simp only [Act.put, List.setIfInBounds_toArray, List.set_cons_zero, List.set_cons_succ])
      repeat (first | (refine Lone.ro_q (by rfl) (v := ?_) ?_ ?_; rotate_left; (focus (intro w' hSw; (try dsimp only at hSw); go_simp; try with_reducible rfl)); simp only [Act.put, List.setIfInBounds_toArray, List.set_cons_zero, List.set_cons_succ]) | (refine Lone.ro_skip (by rfl) ?_; simp only [Act.put, List.setIfInBounds_toArray, List.set_cons_zero, List.set_cons_succ]))
      (refine Lone.ro_nil ?_; go_wp2_with fail)
      go_ret
      first | exact ⟨rfl, HB1.out.mono HBW.out, fun h => by cases h⟩ | exact ⟨rfl, HB1.out.mono HBW.out⟩
    | some f =>
      rw [hg] at HFI
      obtain ⟨h1, h2, h3, h4⟩ := at_some Fil.name HGD.out.srt hg
      rw [← show k = idxL Fil.name frm l from HK.out] at h1 h2 h3 h4
      obtain ⟨g, cp', hv, hcp⟩ := own_form (HOW.out _ (Below.refl _ W)) (by omega)
      simp only [Value.slice.injEq, true_and] at hv
      obtain ⟨rfl, rfl⟩ := hv
      have hki : (k : Int) < (l.length : Int) := by omega
      have hkw : IntKind.i64.wrap ((k : Int) + 1) = (k : Int) + 1 := by rw [IntKind.wrap_i64]; omega
      have hr1 := HR.out.trans (renameO_3 HNMD.out hg)
      obtain ⟨l2, hl2e⟩ : ∃ l2, l2 = fdel frm l := ⟨_, rfl⟩
      rw [← hl2e] at hr1
      subst hr1
      have H2 := Lib.hid h2
      have HDE := Lib.hid (show fvs (l.take k) ++ fvs (l.drop (k + 1)) = fvs l2 by rw [hl2e, ← fvs_append, h4])
      have HDL := Lib.hid (show l.length - 1 = l2.length by have := len_del_some Fil.name HGD.out.srt hg; rw [hl2e]; show _ = (delL Fil.name frm l).length; omega)
      have HDG := Lib.hid (show GoodL namedD l2 by rw [hl2e]; exact fdel_inv (n := frm) HGD.out)
      have HDEL := Lib.hid (fun w1 (ho : w1.ownsRow B 60 3 (.slice (some ⟨g, 0, none⟩) l.length cp) l.length (fvs l)) => fil_del l.length k _ (fvs l) w1 B ((k : Int) + 1) rfl h1 ho (fvs_one l))
      have HD399 := Lib.hid (show l2.length + 1 ≤ 400 by have := len_del_some Fil.name HGD.out.srt hg; have := HGD.out.len; rw [hl2e]; show (delL Fil.name frm l).length + 1 ≤ 400; omega)
      clear h2 h3 h4 hl2e hg
      go_wp2_with fail
      refine Lone.wp_region_order [(0, false), (1, false), (2, false), (3, false), (4, true), (5, false), (6, false), (7, false), (8, false), (9, false)] (fun w' => w'.cell? ⟨gb, 0, none⟩ = some (.slice (some ⟨g, 0, none⟩) l.length cp) ∧ w'.cell? ⟨gb, 1, none⟩ = some (.int .i64 fu) ∧ w'.cell? ⟨ab, 0, none⟩ = some (.string frm)) (by kernel_rfl) (by kernel_rfl) rfl (by kernel_rfl) (by intro _ _ d _ _ h; cases d <;> exact h) (⟨c0, c1, n0⟩) ?_; simp only [List.map_cons, List.map_nil, List.getElem?_toArray, List.getElem?_cons_zero, List.getElem?_cons_succ, Option.getD_some]
      repeat (first | (refine Lone.ro_q (by rfl) (v := ?_) ?_ ?_; rotate_left; (focus (intro w' hSw; (try dsimp only at hSw); go_simp; try with_reducible rfl)); simp only [Act.put, List.setIfInBounds_toArray, List.set_cons_zero, List.set_cons_succ]) | (refine Lone.ro_skip (by rfl) ?_; simp only [Act.put, List.setIfInBounds_toArray, List.set_cons_zero, List.set_cons_succ]))
      (refine Lone.ro_loud (by rfl) (fun K hK => ?_); go_simp)
      (with_reducible refine (HFI.out _ (HBN.out).drew).mono ?_)
      rintro e w1 ⟨rfl, hb1⟩
      have HB1 := Lib.hid (show Below W.heap.size W w1 from (HBN.out).drew.trans (hb1.mono (HBN.out).size))
      clear hb1 c0 c1 z0 z1 n0
      obtain ⟨c0, c1, z0, z1⟩ := cell_of_two (HGB.out _ HB1.out)
      have n0 := HNB.out _ HB1.out
      (refine hK.out _ _ (fun w' => w'.cell? ⟨gb, 0, none⟩ = some (.slice (some ⟨g, 0, none⟩) l.length cp) ∧ w'.cell? ⟨gb, 1, none⟩ = some (.int .i64 fu) ∧ w'.cell? ⟨ab, 0, none⟩ = some (.string frm)) (.inl fun _ h => h) (⟨c0, c1, n0⟩) ?_; clear hK K; try simp only [Act.put, List.setIfInBounds_toArray, List.set_cons_zero, List.set_cons_succ])
      repeat (first | (refine Lone.ro_q (by rfl) (v := ?_) ?_ ?_; rotate_left; (focus (intro w' hSw; (try dsimp only at hSw); go_simp; try with_reducible rfl)); simp only [Act.put, List.setIfInBounds_toArray, List.set_cons_zero, List.set_cons_succ]) | (refine Lone.ro_skip (by rfl) ?_; simp only [Act.put, List.setIfInBounds_toArray, List.set_cons_zero, List.set_cons_succ]))
      have HO1 := Lib.hid (HOW.out _ HB1.out)
      obtain ⟨s0, s1, s2, sf⟩ := own_cells HO1.out H2.out
      clear sf n0
      obtain ⟨V, hV⟩ : ∃ V, w1.alloc (.cells #[.string f.name, .string f.safe, .string f.tail] 60) = V := ⟨_, rfl⟩
      have hv0 : V.heap[w1.heap.size]? = some (.cells #[.string f.name, .string f.safe, .string f.tail] 60 (0, 0)) := by rw [← hV]; exact heap_alloc_new _ _
      have hbV : Below w1.heap.size w1 V := by rw [← hV]; exact (Below.refl _ _).alloc (Nat.le_refl _) _
      obtain ⟨v0, v1, v2⟩ := three_of hv0
      have vf : V.frozen? ⟨w1.heap.size, 0, none⟩ = false := by simp [World.frozen?, hv0]
      have HBV := Lib.hid (HB1.out.trans (hbV.mono HB1.out.size))
      have m0 := HTBB.out _ (HBV.out.mono HBW.out)
      obtain ⟨V2, hV2⟩ : ∃ V2, V.setCell ⟨w1.heap.size, 0, none⟩ (.string to) = V2 := ⟨_, rfl⟩
      have HF2 := Lib.hid (show V2.heap[w1.heap.size]? = some (.cells #[.string to, .string f.safe, .string f.tail] 60 (0, 0)) by rw [← hV2]; exact three_set0 hv0)
      have HBV2 := Lib.hid (show Below W.heap.size W V2 by rw [← hV2]; exact HBV.out.setCell (p := ⟨w1.heap.size, 0, none⟩) HB1.out.size _)
      obtain ⟨e0, e1, y0, y1⟩ := cell_of_two (HGB.out _ HBV2.out)
      clear hv0 hbV
      (refine Lone.ro_nil ?_; go_wp2_with fail)
      (with_reducible refine (HDEL.out V2 (HOW.out _ HBV2.out)).mono ?_)
      rintro e w2 ⟨v', rfl, hO2, hU2, _⟩
      rw [fvs_take, fvs_drop, HDE.out, HDL.out] at hO2
      obtain ⟨ao2, cp2, rfl⟩ := rd_form (rdRow_of_owns hO2)
      have hgf : g < w1.heap.size := lt_of_lt_own HO1.out
      have hG2 := blk_upd (HGB.out _ HBV2.out) hU2 (fun e => owns_ne (e := 60) (t := 30) (HOW.out _ HBV2.out) (HGB.out _ HBV2.out) (by decide) e)
      have hF2 := blk_upd HF2.out hU2 (fun e => by obtain rfl : g = w1.heap.size := (by simpa [Value.ownBlock] using e); omega)
      have hB2 := (HBV2.out.mono HBW.out).trans (hU2.below (Nat.le_trans HBW.out HBV2.out.size) (fun i hi => ((HOW.out _ HBV2.out).lt i hi).1))
      have hgw : gb < w1.heap.size := Nat.lt_of_lt_of_le (lt_of_block (HGB.out _ (Below.refl _ W))) HB1.out.size
      clear c0 c1 z0 z1 e0 e1 y0 y1 v0 v1 v2 vf m0 s0 s1 s2 hU2 hV hV2
      obtain ⟨c0, c1, z0, z1⟩ := cell_of_two hG2
      obtain ⟨w3, hw3⟩ : ∃ w3, w2.setCell ⟨gb, 0, none⟩ (.slice ao2 l2.length cp2) = w3 := ⟨_, rfl⟩
      have hG3 : w3.heap[gb]? = some (.cells #[.slice ao2 l2.length cp2, .int .i64 fu] 30 (0, 0)) := by rw [← hw3]; exact two_setCell0 hG2
      have hF3 : w3.heap[w1.heap.size]? = some (.cells #[.string to, .string f.safe, .string f.tail] 60 (0, 0)) := by rw [← hw3]; exact blk_upd (S := fun i => i = gb) hF2 ((Upd.refl (fun i => i = gb) w2).setCell (a := ⟨gb, 0, none⟩) (.inl rfl) _) (by omega)
      have hO3 : w3.ownsRow B 60 3 (.slice ao2 l2.length cp2) l2.length (fvs l2) := by rw [← hw3]; exact owns_setCell hO2 (owns_ne (e := 60) (t := 30) hO2 hG2 (by decide)) _
      have HB3 := Lib.hid (show Below B W w3 by rw [← hw3]; exact hB2.setCell (p := ⟨gb, 0, none⟩) HGE.out _)
      have n3 := HTBB.out _ HB3.out
      have hn3 := World.block_lt_of_cell? w3 _ n3
      have HG3 := Lib.hid (fun w' (h : Below w3.heap.size w3 w') => blk_below hG3 h)
      have HF3 := Lib.hid (fun w' (h : Below w3.heap.size w3 w') => blk_below hF3 h)
      have HO3 := Lib.hid (fun w' (h : Below w3.heap.size w3 w') => owns_below hO3 h)
      have HN3 := Lib.hid (fun w' (h : Below w3.heap.size w3 w') => (h.cell (p := ⟨tb, 0, none⟩) hn3).trans n3)
      have hl2 := HDG.out.len
      have HFI2 := Lib.hid (find_any l2 to _ fu w3.drew HDG.out.srt (rdF_owns (HO3.out _ (Below.refl _ w3).drew)) (by omega))
      obtain ⟨k2, hk2⟩ : ∃ k2, k2 = fidx to l2 := ⟨_, rfl⟩
      have HK2 := Lib.hid hk2
      rw [← hk2] at HFI2
      clear hk2 hG2 hF2 hB2 hG3 hF3 hO3 hO2 hgf hn3 hgw
      have d0 := c0
      have x0 := z0
      cases hg2 : fget to l2 with
      | some f2 =>
        obtain ⟨i1, i2, i3, _⟩ := at_some Fil.name HDG.out.srt hg2
        rw [← show k2 = idxL Fil.name to l2 from HK2.out] at i1 i2 i3
        obtain ⟨g2, cp3, hv2, hcp2⟩ := own_form (HO3.out _ (Below.refl _ w3)) (by omega)
        simp only [Value.slice.injEq, true_and] at hv2
        obtain ⟨rfl, rfl⟩ := hv2
        have hk2i : (k2 : Int) < (l2.length : Int) := by omega
        have I2 := Lib.hid i2
        have I3 := Lib.hid (i3 ⟨to, f.safe, f.tail⟩ rfl)
        have HLN := Lib.hid (len_put_some Fil.name (f := ⟨to, f.safe, f.tail⟩) HDG.out.srt hg2)
        rw [hg2] at HFI2
        clear i2 i3 hg2
        go_wp2_with fail
        obtain ⟨c0, c1, z0, z1⟩ := cell_of_two (HG3.out _ (Below.refl _ w3))
        have n0 := HN3.out _ (Below.refl _ w3)
        clear d0 x0
        refine Lone.wp_region_order [(0, false), (1, false), (2, false), (3, false), (4, true), (5, false), (6, false), (7, false), (8, false), (9, false)] (fun w' => w'.cell? ⟨gb, 0, none⟩ = some (.slice (some ⟨g2, 0, none⟩) l2.length cp2) ∧ w'.cell? ⟨gb, 1, none⟩ = some (.int .i64 fu) ∧ w'.cell? ⟨tb, 0, none⟩ = some (.string to)) (by kernel_rfl) (by kernel_rfl) rfl (by kernel_rfl) (by intro _ _ d _ _ h; cases d <;> exact h) (⟨c0, c1, n0⟩) ?_; simp only [List.map_cons, List.map_nil, List.getElem?_toArray, List.getElem?_cons_zero, List.getElem?_cons_succ, Option.getD_some]
        repeat (first | (refine Lone.ro_q (by rfl) (v := ?_) ?_ ?_; rotate_left; (focus (intro w' hSw; (try dsimp only at hSw); go_simp; try with_reducible rfl)); simp only [Act.put, List.setIfInBounds_toArray, List.set_cons_zero, List.set_cons_succ]) | (refine Lone.ro_skip (by rfl) ?_; simp only [Act.put, List.setIfInBounds_toArray, List.set_cons_zero, List.set_cons_succ]))
        (refine Lone.ro_loud (by rfl) (fun K hK => ?_); go_simp)
        (with_reducible refine (HFI2.out).mono ?_)
        rintro e w4 ⟨rfl, hb1⟩
        have HB4 := Lib.hid (show Below w3.heap.size w3 w4 from ((Below.refl w3.heap.size w3)).drew.trans (hb1.mono ((Below.refl w3.heap.size w3)).size))
        clear hb1 c0 c1 z0 z1 n0
        obtain ⟨c0, c1, z0, z1⟩ := cell_of_two (HG3.out _ HB4.out)
        have n0 := HN3.out _ HB4.out
        (refine hK.out _ _ (fun w' => w'.cell? ⟨gb, 0, none⟩ = some (.slice (some ⟨g2, 0, none⟩) l2.length cp2) ∧ w'.cell? ⟨gb, 1, none⟩ = some (.int .i64 fu) ∧ w'.cell? ⟨tb, 0, none⟩ = some (.string to)) (.inl fun _ h => h) (⟨c0, c1, n0⟩) ?_; clear hK K; try simp only [Act.put, List.setIfInBounds_toArray, List.set_cons_zero, List.set_cons_succ])
        repeat (first | (refine Lone.ro_q (by rfl) (v := ?_) ?_ ?_; rotate_left; (focus (intro w' hSw; (try dsimp only at hSw); go_simp; try with_reducible rfl)); simp only [Act.put, List.setIfInBounds_toArray, List.set_cons_zero, List.set_cons_succ]) | (refine Lone.ro_skip (by rfl) ?_; simp only [Act.put, List.setIfInBounds_toArray, List.set_cons_zero, List.set_cons_succ]))
        have HO4 := Lib.hid (HO3.out _ HB4.out)
        obtain ⟨s0, s1, s2, sf⟩ := own_cells HO4.out I2.out
        have sf0 := sf (k2 * 3)
        have sf1 := sf (k2 * 3 + 1)
        have sf2 := sf (k2 * 3 + 2)
        obtain ⟨v0, v1, v2⟩ := three_of (HF3.out _ HB4.out)
        clear sf
        (refine Lone.ro_nil ?_; go_wp2_with fail)
        go_region
        have HUP := Lib.hid ((((Upd.refl (fun i => i = g2) w4).setCell (a := ⟨g2, k2 * 3, none⟩) (.inl rfl) (.string to)).setCell (a := ⟨g2, k2 * 3 + 1, none⟩) (.inl rfl) (.string f.safe)).setCell (a := ⟨g2, k2 * 3 + 2, none⟩) (.inl rfl) (.string f.tail))
        have hgB : B ≤ g2 := (HO4.out.lt g2 rfl).1
        have HGN := Lib.hid (show gb ≠ g2 from fun e => owns_ne (e := 60) (t := 30) HO4.out (HG3.out _ HB4.out) (by decide) (by rw [e]; rfl))
        have h := own_set (own_set (own_set HO4.out (k2 * 3) (.string to)) (k2 * 3 + 1) (.string f.safe)) (k2 * 3 + 2) (.string f.tail)
        rw [fvs_set I2.out ⟨to, f.safe, f.tail⟩, set_parts _ _ _ i1, I3.out] at h
        have HX := Lib.hid h
        have hle : B ≤ w3.heap.size := Nat.le_trans HBW.out HB3.out.size
        have hbf := Lib.hid ((HB3.out.trans (HB4.out.mono hle)).trans (HUP.out.below (Nat.le_trans hle HB4.out.size) (fun i hi => by rw [hi]; exact hgB)))
        have hgf := Lib.hid (blk_upd (S := fun i => i = g2) (HG3.out _ HB4.out) HUP.out HGN.out)
        clear h c0 c1 z0 z1 s0 s1 s2 sf0 sf1 sf2 v0 v1 v2 n0
        go_wp2_with fail
        go_ret
        refine ⟨rfl, hbf.out.drew, ?_⟩
        try intro _
        refine ⟨_, hgf.out, ?_⟩
        show World.ownsRow _ B 60 3 _ (putL Fil.name _ l2).length (fvs (putL Fil.name _ l2))
        rw [HLN.out]
        exact HX.out
      | none =>
        obtain ⟨i1, i3⟩ := at_none Fil.name HDG.out.srt hg2
        rw [← show k2 = idxL Fil.name to l2 from HK2.out] at i1 i3
        have I3 := Lib.hid (i3 ⟨to, f.safe, f.tail⟩ rfl)
        have HLN := Lib.hid (len_put_none Fil.name (f := ⟨to, f.safe, f.tail⟩) HDG.out.srt hg2)
        rw [hg2] at HFI2
        clear i3 hg2
        go_wp2_with fail
        obtain ⟨c0, c1, z0, z1⟩ := cell_of_two (HG3.out _ (Below.refl _ w3))
        have n0 := HN3.out _ (Below.refl _ w3)
        clear d0 x0
        refine Lone.wp_region_order [(0, false), (1, false), (2, false), (3, false), (4, true), (5, false), (6, false), (7, false), (8, false), (9, false)] (fun w' => w'.cell? ⟨gb, 0, none⟩ = some (.slice ao2 l2.length cp2) ∧ w'.cell? ⟨gb, 1, none⟩ = some (.int .i64 fu) ∧ w'.cell? ⟨tb, 0, none⟩ = some (.string to)) (by kernel_rfl) (by kernel_rfl) rfl (by kernel_rfl) (by intro _ _ d _ _ h; cases d <;> exact h) (⟨c0, c1, n0⟩) ?_; simp only [List.map_cons, List.map_nil, List.getElem?_toArray, List.getElem?_cons_zero, List.getElem?_cons_succ, Option.getD_some]
        repeat (first | (refine Lone.ro_q (by rfl) (v := ?_) ?_ ?_; rotate_left; (focus (intro w' hSw; (try dsimp only at hSw); go_simp; try with_reducible rfl)); simp only [Act.put, List.setIfInBounds_toArray, List.set_cons_zero, List.set_cons_succ]) | (refine Lone.ro_skip (by rfl) ?_; simp only [Act.put, List.setIfInBounds_toArray, List.set_cons_zero, List.set_cons_succ]))
        (refine Lone.ro_loud (by rfl) (fun K hK => ?_); go_simp)
        (with_reducible refine (HFI2.out).mono ?_)
        rintro e w4 ⟨rfl, hb1⟩
        have HB4 := Lib.hid (show Below w3.heap.size w3 w4 from ((Below.refl w3.heap.size w3)).drew.trans (hb1.mono ((Below.refl w3.heap.size w3)).size))
        clear hb1 c0 c1 z0 z1 n0
        obtain ⟨c0, c1, z0, z1⟩ := cell_of_two (HG3.out _ HB4.out)
        have n0 := HN3.out _ HB4.out
        (refine hK.out _ _ (fun w' => w'.cell? ⟨gb, 0, none⟩ = some (.slice ao2 l2.length cp2) ∧ w'.cell? ⟨gb, 1, none⟩ = some (.int .i64 fu) ∧ w'.cell? ⟨tb, 0, none⟩ = some (.string to)) (.inl fun _ h => h) (⟨c0, c1, n0⟩) ?_; clear hK K; try simp only [Act.put, List.setIfInBounds_toArray, List.set_cons_zero, List.set_cons_succ])
        repeat (first | (refine Lone.ro_q (by rfl) (v := ?_) ?_ ?_; rotate_left; (focus (intro w' hSw; (try dsimp only at hSw); go_simp; try with_reducible rfl)); simp only [Act.put, List.setIfInBounds_toArray, List.set_cons_zero, List.set_cons_succ]) | (refine Lone.ro_skip (by rfl) ?_; simp only [Act.put, List.setIfInBounds_toArray, List.set_cons_zero, List.set_cons_succ]))
        obtain ⟨v0, v1, v2⟩ := three_of (HF3.out _ HB4.out)
        (refine Lone.ro_nil ?_; go_wp2_with fail)
        have hle : B ≤ w3.heap.size := Nat.le_trans HBW.out HB3.out.size
        have HLE := Lib.hid hle
        have hbA : Below w3.heap.size w3 (w4.alloc (.cells #[.string to, .string f.safe, .string f.tail] 60)).drew := (HB4.out.alloc HB4.out.size (.cells #[.string to, .string f.safe, .string f.tail] 60)).drew
        have HBA := Lib.hid hbA
        have HVA := Lib.hid (show (w4.alloc (.cells #[.string to, .string f.safe, .string f.tail] 60)).drew.heap[w4.heap.size]? = some (.cells #[.string to, .string f.safe, .string f.tail] 60 (0, 0)) from heap_alloc_new w4 _)
        have HV1 := Lib.hid (three_one to f.safe f.tail)
        have hne1 : (Value.slice ao2 l2.length cp2).ownBlock ≠ some w4.heap.size := fun e => absurd ((HO3.out _ HB4.out).lt _ e).2 (Nat.lt_irrefl _)
        have HINS := Lib.hid (fun (w' : World) (hb : Below w3.heap.size w3 w') (hvb : w'.heap[w4.heap.size]? = some (.cells #[.string to, .string f.safe, .string f.tail] 60 (0, 0))) => fil_ins l2.length k2 _ (fvs l2) w' B w4.heap.size #[.string to, .string f.safe, .string f.tail] i1 (HO3.out _ hb) (fvs_one l2) (Nat.le_trans HLE.out hb.size) hvb rfl HV1.out hne1 (by have := HD399.out; omega))
        have HB2F := Lib.hid (fun (w' w2 : World) (hb : Below w3.heap.size w3 w') (hu : Upd (fun b => (Value.slice ao2 l2.length cp2).ownBlock = some b) w' w2) => (HB3.out.trans (hb.mono HLE.out)).trans (hu.below (Nat.le_trans HLE.out hb.size) (fun i hi => ((HO3.out _ hb).lt i hi).1)))
        have HG2F := Lib.hid (fun (w' w2 : World) (hb : Below w3.heap.size w3 w') (hu : Upd (fun b => (Value.slice ao2 l2.length cp2).ownBlock = some b) w' w2) => blk_upd (HG3.out _ hb) hu (fun e => owns_ne (e := 60) (t := 30) (HO3.out _ hb) (HG3.out _ hb) (by decide) e))
        have c0a := (cell_of_two (HG3.out _ hbA)).1
        obtain ⟨va0, va1, va2⟩ := three_of (HF3.out _ hbA)
        clear hbA hne1 hle
        go_region_with (go_at_call 37; refine (HINS.out _ ?_ ?_).mono ?_; exact HBA.out; exact HVA.out; rintro e w5 ⟨v', rfl, hO5, hU5⟩; obtain ⟨g5, cp5, hv, hcp5⟩ := own_form hO5 (Nat.succ_pos _); subst hv; have HB5 := Lib.hid (HB2F.out _ _ HBA.out hU5); have HG5 := Lib.hid (HG2F.out _ _ HBA.out hU5); clear c0 c1 z0 z1 hU5 c0a va0 va1 va2 v0 v1 v2; obtain ⟨c0, c1, z0, z1⟩ := cell_of_two HG5.out; have HO5 := Lib.hid hO5; clear hO5)
        all_goals
          clear c0 c1 z0 z1
          go_wp2_with fail
          go_ret
          have h := owns_setCell HO5.out (owns_ne (e := 60) (t := 30) HO5.out HG5.out (by decide)) (a := ⟨gb, 0, none⟩) (.slice (some ⟨g5, 0, none⟩) (l2.length + 1) cp5)
          rw [show ([Value.string to, .string f.safe, .string f.tail] : List Value) = fvs [⟨to, f.safe, f.tail⟩] from rfl, fvs_take, fvs_drop, ← fvs_append, ← fvs_append, List.append_assoc, List.singleton_append, I3.out] at h
          refine ⟨rfl, HB5.out.setCell (p := ⟨gb, 0, none⟩) HGE.out _, ?_⟩
          try intro _
          refine ⟨_, two_setCell0 HG5.out, ?_⟩
          show World.ownsRow _ B 60 3 _ (putL Fil.name _ l2).length (fvs (putL Fil.name _ l2))
          rw [HLN.out]
          exact h
end Go.Proofs.Ytnggcldpojebkaa
