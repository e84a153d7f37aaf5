/- The walk of StoreBack. -/
import Derived.Test.YtalkheljejkpiaaDoorStore2
import Derived.Test.YtalkheljejkpiaaDoorDisk11
import Derived.Test.YtalkheljejkpiaaDoorPick
import Derived.Test.YtalkheljejkpiaaDoorRegion3
namespace Go.Proofs.YtalkheljejkpiaaDoor
open Go.RowKit
set_option linter.unusedVariables false
set_option linter.unusedSimpArgs false

set_option maxRecDepth 100000 in
set_option maxHeartbeats 3200000 in
theorem storeBack_walk {w : World} (ht : Tab w) (l : List Fil) (f : Int) (v : Value) (hr : rdF w v l) (hfu : -9223372036854775808 ≤ f ∧ f ≤ 9223372036854775807) (s : ByteArray) (hs : s.size ≤ 140737488351232) (fuse : Int) (hfs : -9223372036854775808 ≤ fuse ∧ fuse ≤ 9223372036854775807) (keep : Int) (hke : -9223372036854775808 ≤ keep ∧ keep ≤ 9223372036854775807) :
    Calls Tryd.prog 6 #[.agg #[v, .int .i64 f], .string s, .int .i64 fuse, .int .i64 keep] w fun e w' => e = .returned (.bool true) ∧ Below w.heap.size w w' := by
  obtain ⟨a0, p0, hv⟩ := rd_form hr
  subst hv
  obtain ⟨W, hW⟩ : ∃ W, w.alloc (.cells #[.slice a0 l.length p0, .int .i64 f] 38) = W := ⟨_, rfl⟩
  have hbW : Below w.heap.size w W := by rw [← hW]; exact (Below.refl _ _).alloc (Nat.le_refl _) _
  have g0 : W.heap[w.heap.size]? = some (.cells #[.slice a0 l.length p0, .int .i64 f] 38 (0, 0)) := by rw [← hW]; exact heap_alloc_new _ _
  have HT := Lib.hid (fun w' (h : Below w.heap.size w w') => ht.below h)
  obtain ⟨c0, c1, cz0, cz1⟩ := cell_of_two g0
  clear ht hfu
  obtain ⟨r, hr7⟩ : ∃ r, r = fuse % 7 := ⟨_, rfl⟩
  have hpk := pick7 fuse W hfs
  rw [← hr7] at hpk
  have hrl : 0 ≤ r ∧ r < 7 := by rw [hr7]; exact pickD_law fuse 7 (by omega)
  obtain ⟨f1, hf1⟩ : ∃ f1, r - 1 = f1 := ⟨_, rfl⟩
  have hr0 : 0 ≤ r := hrl.1
  have hr6 : r < 7 := hrl.2
  have HF1 := Lib.hid (show -9223372036854775808 ≤ f1 ∧ f1 ≤ 9223372036854775807 by omega)
  have HC := Lib.hid hpk
  clear hpk hr7 hrl
  obtain ⟨X, hX⟩ : ∃ X, W.setCell ⟨w.heap.size, 1, none⟩ (.int .i64 f1) = X := ⟨_, rfl⟩
  have GD := Lib.hid (show X.heap[w.heap.size]? = some (.cells #[.slice a0 l.length p0, .int .i64 f1] 38 (0, 0)) by rw [← hX]; exact two_setCell1 g0)
  have HB0 := Lib.hid (show Below w.heap.size w X by rw [← hX]; exact hbW.setCell (p := ⟨w.heap.size, 1, none⟩) (Nat.le_refl _) _)
  have RD := Lib.hid (show rdF X (.slice a0 l.length p0) l by rw [← hX]; exact rdF_upd (hr.below hbW) ((Upd.refl (fun i => i = w.heap.size) _).setCell (a := ⟨w.heap.size, 1, none⟩) (.inl rfl) _) (no_str g0))
  clear hr g0 hbW
  go_enter Tryd.func6, Tryd.ntmps6
  go_wp2_with fail
  (with_reducible refine HC.out.mono ?_)
  rintro e wq ⟨rfl, rfl⟩
  clear HC hW
  obtain ⟨kGD0, kGD1, kGDy, kGDz⟩ := cell_of_two GD.out
  have hput := sput_any l f1 HF1.out (.slice a0 l.length p0) X RD.out s (by omega) (HT.out _ HB0.out)
  have hfz := put_fz ⟨l, f1⟩ s
  obtain ⟨⟨⟨al, af⟩, id, e0⟩, hq⟩ : ∃ q, q = putF ⟨l, f1⟩ s := ⟨_, rfl⟩
  rw [← hq] at hput hfz
  have HAF := Lib.hid (hfz.in HF1.out)
  have HQ := Lib.hid hq.symm
  have HP := Lib.hid hput
  clear hput hfz hq
  go_wp2_with fail
  clear c0 c1 cz0 cz1 hX hf1 hr0 hr6
  (with_reducible refine HP.out.mono ?_)
  rintro e w1 ⟨v1, rfl, hr, hb⟩
  obtain ⟨a1, c1, rfl⟩ := rd_form hr
  have RA := Lib.hid hr
  have HB1 := Lib.hid (HB0.out.trans (hb.mono HB0.out.size))
  clear kGD0 kGD1 kGDy kGDz
  replace GD := Lib.hid (blk_below GD.out hb)
  replace RD := Lib.hid (RD.out.below hb)
  clear hb hr HP
  obtain ⟨kGD0, kGD1, kGDy, kGDz⟩ := cell_of_two GD.out
  skip
  by_cases he : e0 = 0
  · subst he
    obtain ⟨kk, hkk⟩ : ∃ kk : Nat, (kk : Int) = keep % 100 := ⟨(keep % 100).toNat, by have := pickD_law keep 100 (by omega); omega⟩
    have HKK := Lib.hid hkk
    have HKE := Lib.hid hke
    obtain ⟨hi, hag, hgood, hg0, hgs, hl1, hl2⟩ := back_law kk HQ.out
    have HAG := Lib.hid hag
    have HGO := Lib.hid hgood
    have HI32 := Lib.hid (show id.size = 32 by rw [hi]; exact sumF_size s)
    obtain ⟨⟨t, te⟩, htq⟩ : ∃ q, q = getF ⟨al, af⟩ id := ⟨_, rfl⟩
    rw [← htq] at hg0 hgs hl1 hl2
    obtain rfl : te = 0 := hg0
    obtain ⟨⟨x2, ew⟩, hwq⟩ : ∃ q, q = getF ⟨l, f1⟩ id := ⟨_, rfl⟩
    rw [← hwq] at hl1 hl2
    obtain ⟨cl, hcl⟩ : ∃ cl, cl = al.map (crashFil kk) := ⟨_, rfl⟩
    dsimp only at hl1 hl2
    rw [← hcl] at hl2
    obtain ⟨⟨u, ei⟩, huq⟩ : ∃ q, q = getF ⟨cl, -1⟩ id := ⟨_, rfl⟩
    rw [← huq] at hl2
    have HLW := Lib.hid (show t ≠ s → ew = 0 from hl1)
    have HLB := Lib.hid (show t = s → ew ≠ 0 → u = s ∧ ei = 0 from fun h1 h2 => by rcases hl2 h1 with h | h; exact absurd h h2; injection h with h3 h4; exact ⟨h3, h4⟩)
    have HIDS := Lib.hid (fun wr (h : Below w.heap.size w wr) => id_any s wr (HT.out wr h))
    rw [← hi] at HIDS
    have HIDT := Lib.hid (fun wr (h : Below w.heap.size w wr) => id_any t wr (HT.out wr h))
    rw [show sumF t = id by rw [hi]; exact hgs] at HIDT
    have HG_a := Lib.hid (fun wr (hr : rdF wr (.slice a1 al.length c1) al) (h : Below w.heap.size w wr) => sget_any al af _ wr hr id (by rw [HI32.out]; decide) (HT.out wr h))
    rw [← htq] at HG_a
    have HG_b := Lib.hid (fun wr (hr : rdF wr (.slice a0 l.length p0) l) (h : Below w.heap.size w wr) => sget_any l f1 _ wr hr id (by rw [HI32.out]; decide) (HT.out wr h))
    rw [← hwq] at HG_b
    have HG_c := Lib.hid (fun (a5 : Option Addr) (c5 : Nat) wr (hr : rdF wr (.slice a5 cl.length c5) cl) (h : Below w.heap.size w wr) => sget_any cl (-1) _ wr hr id (by rw [HI32.out]; decide) (HT.out wr h))
    rw [← huq] at HG_c
    have HCR := Lib.hid (fun wr (hr : rdF wr (.slice a1 al.length c1) al) => crash_any al af _ wr hr (kk : Int) (by have := pickD_law keep 100 (by omega); omega))
    rw [crashD_2 (d := ⟨al, af⟩) HGO.out (by omega), Int.toNat_natCast] at HCR
    dsimp only at HCR
    rw [← hcl] at HCR
    have hoo := beq_yes id
    have hoo2 : (id.toList != id.toList) = false := by rw [bne, hoo]; rfl
    clear hkk hi hag hgood hgs hl1 hl2 htq hwq hcl huq
    go_wp2_with (refine wpList_store_blk (by rfl) 38 (.tmp 9) (.tmp 31) rfl w1.heap.size #[.slice a1 al.length c1, .int .i64 af] rfl rfl (old := _) (heap_alloc_new _ _) (by kernel_rfl) rfl (by simp [Value.oneCell']) ?_; intro w2 gz uz; clear kGD0 kGD1 kGDy kGDz; have hb := below_upd ((Below.refl w1.heap.size w1).alloc (Nat.le_refl _) _) uz (Nat.le_refl _) (by simp); have HB2 := Lib.hid (HB1.out.trans (hb.mono HB1.out.size)); replace GD := Lib.hid (blk_below GD.out hb); replace RD := Lib.hid (RD.out.below hb); replace RA := Lib.hid (RA.out.below hb); have GA := Lib.hid gz; clear gz uz hb; obtain ⟨kGD0, kGD1, kGDy, kGDz⟩ := cell_of_two GD.out; obtain ⟨kGA0, kGA1, kGAy, kGAz⟩ := cell_of_two GA.out)
    have hput := sput_any al af HAF.out (.slice a1 al.length c1) w2 RA.out s (by omega) (HT.out _ HB2.out)
    rw [HAG.out] at hput
    have HP := Lib.hid hput
    clear hput
    (with_reducible refine HP.out.mono ?_)
    rintro e w3 ⟨v3, rfl, hr, hb⟩
    obtain ⟨a3, c3, rfl⟩ := rd_form hr
    have RB := Lib.hid hr
    have HB3 := Lib.hid (HB2.out.trans (hb.mono HB2.out.size))
    clear kGD0 kGD1 kGDy kGDz
    clear kGA0 kGA1 kGAy kGAz
    replace GD := Lib.hid (blk_below GD.out hb)
    replace RD := Lib.hid (RD.out.below hb)
    replace GA := Lib.hid (blk_below GA.out hb)
    replace RA := Lib.hid (RA.out.below hb)
    clear hb hr HP
    obtain ⟨kGD0, kGD1, kGDy, kGDz⟩ := cell_of_two GD.out
    obtain ⟨kGA0, kGA1, kGAy, kGAz⟩ := cell_of_two GA.out
    have HGX := Lib.hid (show w1.heap.size < w3.heap.size from lt_of_block GA.out)
    obtain ⟨ga, hga⟩ : ∃ ga, ga = w1.heap.size := ⟨_, rfl⟩
    rw [← hga] at GA
    clear kGA0 kGA1 kGAy kGAz
    obtain ⟨kGA0, kGA1, kGAy, kGAz⟩ := cell_of_two GA.out
    rw [← hga]
    clear hga HGX
    go_wp2_with (first | (refine wpList_store_blk (by rfl) 38 (.tmp 12) (.tmp 45) rfl w3.heap.size #[.slice a3 al.length c3, .int .i64 af] rfl rfl (old := _) (heap_alloc_new _ _) (by kernel_rfl) rfl (by simp [Value.oneCell']) ?_; intro w4 gz uz; clear kGD0 kGD1 kGDy kGDz; clear kGA0 kGA1 kGAy kGAz; have hb := below_upd ((Below.refl w3.heap.size w3).alloc (Nat.le_refl _) _) uz (Nat.le_refl _) (by simp); have HB4 := Lib.hid (HB3.out.trans (hb.mono HB3.out.size)); replace GD := Lib.hid (blk_below GD.out hb); replace RD := Lib.hid (RD.out.below hb); replace GA := Lib.hid (blk_below GA.out hb); replace RA := Lib.hid (RA.out.below hb); replace RB := Lib.hid (RB.out.below hb); have GB := Lib.hid gz; clear gz uz hb; obtain ⟨kGD0, kGD1, kGDy, kGDz⟩ := cell_of_two GD.out; obtain ⟨kGA0, kGA1, kGAy, kGAz⟩ := cell_of_two GA.out; obtain ⟨kGB0, kGB1, kGBy, kGBz⟩ := cell_of_two GB.out) | fail)
    skip
    have hb := (Below.refl w4.heap.size w4).drew
    have HBd := Lib.hid (HB4.out.trans (hb.mono HB4.out.size))
    clear kGD0 kGD1 kGDy kGDz
    clear kGA0 kGA1 kGAy kGAz
    clear kGB0 kGB1 kGBy kGBz
    replace GD := Lib.hid (blk_below GD.out hb)
    replace RD := Lib.hid (RD.out.below hb)
    replace GA := Lib.hid (blk_below GA.out hb)
    replace RA := Lib.hid (RA.out.below hb)
    replace GB := Lib.hid (blk_below GB.out hb)
    replace RB := Lib.hid (RB.out.below hb)
    clear hb
    go_wp2_with fail
    obtain ⟨wd, hwd⟩ : ∃ x, w4.drew = x := ⟨_, rfl⟩
    rw [hwd] at HBd GD RD GA RA GB RB
    refine Twin.wp_region_order (.q 0 (.q 1 (.l2 2 7 (.l2 3 7 (.q 4 (.q 5 (.q 6 (.l 7 (.l 8 (.q 9 .nil)))))) (.l 3 (.q 4 (.q 5 (.q 6 (.l 8 (.q 9 .nil))))))) (.l 2 (.l 3 (.q 4 (.q 5 (.q 6 (.l 8 (.q 9 .nil)))))))))) (fun w' => w'.cell? ⟨ga, 0, none⟩ = some (.slice a1 al.length c1) ∧ w'.cell? ⟨ga, 1, none⟩ = some (.int .i64 af)) (by kernel_rfl) (by kernel_rfl) rfl (by kernel_rfl) (by intro _ _ d _ _ h; cases d <;> exact h) (hwd ▸ (let h := cell_of_two GA.out; ⟨h.1, h.2.1⟩)) ?_; simp only [Twin.Ord.opers, List.getElem?_toArray, List.getElem?_cons_zero, List.getElem?_cons_succ, Option.getD_some]
    rw [hwd]
    clear hwd
    repeat (first | (refine Twin.ro_q (by rfl) (v := ?_) ?_ ?_; rotate_left; (focus (intro w' hSw; (try dsimp only at hSw); go_simp; try with_reducible rfl)); simp only [Act.put, List.setIfInBounds_toArray, List.set_cons_zero, List.set_cons_succ]) | (refine Twin.ro_skip (by rfl) ?_; simp only [Act.put, List.setIfInBounds_toArray, List.set_cons_zero, List.set_cons_succ]))
    refine Twin.ro_two ?_ ?_
    · (refine Twin.ro_loud (by rfl) (fun K hK => ?_); go_simp)
      (with_reducible refine (pick100 keep _ HKE.out).mono ?_)
      rintro e wq ⟨rfl, rfl⟩
      rw [← HKK.out]
      (refine hK.out _ _ (fun w' => w'.cell? ⟨ga, 0, none⟩ = some (.slice a1 al.length c1) ∧ w'.cell? ⟨ga, 1, none⟩ = some (.int .i64 af)) (.inl fun _ h => h) ((let h := cell_of_two GA.out; ⟨h.1, h.2.1⟩)) ?_; clear hK K; try simp only [Act.put, List.setIfInBounds_toArray, List.set_cons_zero, List.set_cons_succ])
      try repeat (first | (refine Twin.ro_q (by rfl) (v := ?_) ?_ ?_; rotate_left; (focus (intro w' hSw; (try dsimp only at hSw); go_simp; try with_reducible rfl)); simp only [Act.put, List.setIfInBounds_toArray, List.set_cons_zero, List.set_cons_succ]) | (refine Twin.ro_skip (by rfl) ?_; simp only [Act.put, List.setIfInBounds_toArray, List.set_cons_zero, List.set_cons_succ]))
      refine Twin.ro_two ?_ ?_
      · (refine Twin.ro_loud (by rfl) (fun K hK => ?_); go_simp)
        (with_reducible refine (HCR.out wd RA.out).mono ?_)
        rintro e w5 ⟨v5, rfl, hrc, hb⟩
        obtain ⟨a5, c5, rfl⟩ := rd_form hrc
        have RC := Lib.hid hrc
        have HB5 := Lib.hid (HBd.out.trans (hb.mono HBd.out.size))
        replace GD := Lib.hid (blk_below GD.out hb)
        replace RD := Lib.hid (RD.out.below hb)
        replace GA := Lib.hid (blk_below GA.out hb)
        replace RA := Lib.hid (RA.out.below hb)
        replace GB := Lib.hid (blk_below GB.out hb)
        replace RB := Lib.hid (RB.out.below hb)
        clear hb hrc
        (refine hK.out _ _ (fun w' => w'.cell? ⟨ga, 0, none⟩ = some (.slice a1 al.length c1) ∧ w'.cell? ⟨ga, 1, none⟩ = some (.int .i64 af)) (.inl fun _ h => h) ((let h := cell_of_two GA.out; ⟨h.1, h.2.1⟩)) ?_; clear hK K; try simp only [Act.put, List.setIfInBounds_toArray, List.set_cons_zero, List.set_cons_succ])
        repeat (first | (refine Twin.ro_q (by rfl) (v := ?_) ?_ ?_; rotate_left; (focus (intro w' hSw; (try dsimp only at hSw); go_simp; try with_reducible rfl)); simp only [Act.put, List.setIfInBounds_toArray, List.set_cons_zero, List.set_cons_succ]) | (refine Twin.ro_skip (by rfl) ?_; simp only [Act.put, List.setIfInBounds_toArray, List.set_cons_zero, List.set_cons_succ]))
        (refine Twin.ro_loud (by rfl) (fun K hK => ?_); go_simp)
        have hb := (Below.refl w5.heap.size w5).alloc (Nat.le_refl _) (.cells #[.slice none 0 0, .int .i64 0] 38)
        have hgN := heap_alloc_new w5 (.cells #[.slice none 0 0, .int .i64 0] 38)
        obtain ⟨w6, hw6⟩ : ∃ x, w5.alloc (.cells #[.slice none 0 0, .int .i64 0] 38) = x := ⟨_, rfl⟩
        obtain ⟨nb, hnb⟩ : ∃ x, x = w5.heap.size := ⟨_, rfl⟩
        have HLGD := Lib.hid (show _ < nb by rw [hnb]; exact lt_of_block GD.out)
        have HLGA := Lib.hid (show _ < nb by rw [hnb]; exact lt_of_block GA.out)
        have HLGB := Lib.hid (show _ < nb by rw [hnb]; exact lt_of_block GB.out)
        have HWN := Lib.hid (show w.heap.size ≤ nb by rw [hnb]; exact HB5.out.size)
        rw [hw6] at hb hgN
        rw [← hnb] at hgN
        have GN := Lib.hid hgN
        have HB6 := Lib.hid (HB5.out.trans (hb.mono HB5.out.size))
        replace GD := Lib.hid (blk_below GD.out hb)
        replace RD := Lib.hid (RD.out.below hb)
        replace GA := Lib.hid (blk_below GA.out hb)
        replace RA := Lib.hid (RA.out.below hb)
        replace GB := Lib.hid (blk_below GB.out hb)
        replace RB := Lib.hid (RB.out.below hb)
        replace RC := Lib.hid (RC.out.below hb)
        clear hb hgN
        (refine hK.out _ _ (fun w' => w'.cell? ⟨ga, 0, none⟩ = some (.slice a1 al.length c1) ∧ w'.cell? ⟨ga, 1, none⟩ = some (.int .i64 af)) (.inl fun _ h => h) (hw6 ▸ (let h := cell_of_two GA.out; ⟨h.1, h.2.1⟩)) ?_; clear hK K; try simp only [Act.put, List.setIfInBounds_toArray, List.set_cons_zero, List.set_cons_succ])
        rw [hw6]
        try rw [← hnb]
        clear hw6 hnb
        try (repeat (first | (refine Twin.ro_q (by rfl) (v := ?_) ?_ ?_; rotate_left; (focus (intro w' hSw; (try dsimp only at hSw); go_simp; try with_reducible rfl)); simp only [Act.put, List.setIfInBounds_toArray, List.set_cons_zero, List.set_cons_succ]) | (refine Twin.ro_skip (by rfl) ?_; simp only [Act.put, List.setIfInBounds_toArray, List.set_cons_zero, List.set_cons_succ])))
        (refine Twin.ro_loud (by rfl) (fun K hK => ?_))
        refine wp_store_blkS 38 (.tmp 15) (.tmp 53) rfl nb #[.slice a5 cl.length c5, .int .i64 (-1)] rfl rfl (old := _) GN.out (by kernel_rfl) rfl (by simp [Value.oneCell']) ?_
        intro w9 gz uz
        have GC := Lib.hid gz
        have HB9 := Lib.hid (below_upd HB6.out uz HWN.out HB6.out.size)
        replace GD := Lib.hid (blk_upd GD.out uz (Nat.ne_of_lt HLGD.out))
        replace RD := Lib.hid (rdF_upd RD.out uz (no_str GN.out))
        replace GA := Lib.hid (blk_upd GA.out uz (Nat.ne_of_lt HLGA.out))
        replace RA := Lib.hid (rdF_upd RA.out uz (no_str GN.out))
        replace GB := Lib.hid (blk_upd GB.out uz (Nat.ne_of_lt HLGB.out))
        replace RB := Lib.hid (rdF_upd RB.out uz (no_str GN.out))
        replace RC := Lib.hid (rdF_upd RC.out uz (no_str GN.out))
        clear gz uz
        (refine hK.out _ _ (fun w' => w'.cell? ⟨ga, 0, none⟩ = some (.slice a1 al.length c1) ∧ w'.cell? ⟨ga, 1, none⟩ = some (.int .i64 af)) (.inl fun _ h => h) ((let h := cell_of_two GA.out; ⟨h.1, h.2.1⟩)) ?_; clear hK K; try simp only [Act.put, List.setIfInBounds_toArray, List.set_cons_zero, List.set_cons_succ])
        try repeat (first | (refine Twin.ro_q (by rfl) (v := ?_) ?_ ?_; rotate_left; (focus (intro w' hSw; (try dsimp only at hSw); go_simp; try with_reducible rfl)); simp only [Act.put, List.setIfInBounds_toArray, List.set_cons_zero, List.set_cons_succ]) | (refine Twin.ro_skip (by rfl) ?_; simp only [Act.put, List.setIfInBounds_toArray, List.set_cons_zero, List.set_cons_succ]))
        refine Twin.ro_nil ?_
        obtain ⟨kGD0, kGD1, kGDy, kGDz⟩ := cell_of_two GD.out
        obtain ⟨kGA0, kGA1, kGAy, kGAz⟩ := cell_of_two GA.out
        obtain ⟨kGB0, kGB1, kGBy, kGBz⟩ := cell_of_two GB.out
        obtain ⟨kGC0, kGC1, kGCy, kGCz⟩ := cell_of_two GC.out
        have HC := Lib.hid ((HG_a.out _ RA.out HB9.out))
        go_wp2_with fail
        (with_reducible refine HC.out.mono ?_)
        rintro e wa ⟨rfl, hb⟩
        clear kGD0 kGD1 kGDy kGDz
        clear kGA0 kGA1 kGAy kGAz
        clear kGB0 kGB1 kGBy kGBz
        clear kGC0 kGC1 kGCy kGCz
        have HBa := Lib.hid (HB9.out.trans (hb.mono HB9.out.size))
        replace GD := Lib.hid (blk_below GD.out hb)
        replace RD := Lib.hid (RD.out.below hb)
        replace GA := Lib.hid (blk_below GA.out hb)
        replace RA := Lib.hid (RA.out.below hb)
        replace GB := Lib.hid (blk_below GB.out hb)
        replace RB := Lib.hid (RB.out.below hb)
        replace GC := Lib.hid (blk_below GC.out hb)
        replace RC := Lib.hid (RC.out.below hb)
        clear HC hb
        obtain ⟨kGD0, kGD1, kGDy, kGDz⟩ := cell_of_two GD.out
        obtain ⟨kGA0, kGA1, kGAy, kGAz⟩ := cell_of_two GA.out
        obtain ⟨kGB0, kGB1, kGBy, kGBz⟩ := cell_of_two GB.out
        obtain ⟨kGC0, kGC1, kGCy, kGCz⟩ := cell_of_two GC.out
        have HC := Lib.hid ((HG_b.out _ RD.out HBa.out))
        go_wp2_with fail
        (with_reducible refine HC.out.mono ?_)
        rintro e wb ⟨rfl, hb⟩
        clear kGD0 kGD1 kGDy kGDz
        clear kGA0 kGA1 kGAy kGAz
        clear kGB0 kGB1 kGBy kGBz
        clear kGC0 kGC1 kGCy kGCz
        have HBb := Lib.hid (HBa.out.trans (hb.mono HBa.out.size))
        replace GD := Lib.hid (blk_below GD.out hb)
        replace RD := Lib.hid (RD.out.below hb)
        replace GA := Lib.hid (blk_below GA.out hb)
        replace RA := Lib.hid (RA.out.below hb)
        replace GB := Lib.hid (blk_below GB.out hb)
        replace RB := Lib.hid (RB.out.below hb)
        replace GC := Lib.hid (blk_below GC.out hb)
        replace RC := Lib.hid (RC.out.below hb)
        clear HC hb
        obtain ⟨kGD0, kGD1, kGDy, kGDz⟩ := cell_of_two GD.out
        obtain ⟨kGA0, kGA1, kGAy, kGAz⟩ := cell_of_two GA.out
        obtain ⟨kGB0, kGB1, kGBy, kGBz⟩ := cell_of_two GB.out
        obtain ⟨kGC0, kGC1, kGCy, kGCz⟩ := cell_of_two GC.out
        have HC := Lib.hid ((HG_c.out _ _ _ RC.out HBb.out))
        go_wp2_with fail
        (with_reducible refine HC.out.mono ?_)
        rintro e wc ⟨rfl, hb⟩
        clear kGD0 kGD1 kGDy kGDz
        clear kGA0 kGA1 kGAy kGAz
        clear kGB0 kGB1 kGBy kGBz
        clear kGC0 kGC1 kGCy kGCz
        have HBc := Lib.hid (HBb.out.trans (hb.mono HBb.out.size))
        replace GD := Lib.hid (blk_below GD.out hb)
        replace RD := Lib.hid (RD.out.below hb)
        replace GA := Lib.hid (blk_below GA.out hb)
        replace RA := Lib.hid (RA.out.below hb)
        replace GB := Lib.hid (blk_below GB.out hb)
        replace RB := Lib.hid (RB.out.below hb)
        replace GC := Lib.hid (blk_below GC.out hb)
        replace RC := Lib.hid (RC.out.below hb)
        clear HC hb
        obtain ⟨kGD0, kGD1, kGDy, kGDz⟩ := cell_of_two GD.out
        obtain ⟨kGA0, kGA1, kGAy, kGAz⟩ := cell_of_two GA.out
        obtain ⟨kGB0, kGB1, kGBy, kGBz⟩ := cell_of_two GB.out
        obtain ⟨kGC0, kGC1, kGCy, kGCz⟩ := cell_of_two GC.out
        have HC := Lib.hid (sameDisk_any al af _ _ wc RB.out RA.out)
        go_wp2_with fail
        (with_reducible refine HC.out.mono ?_)
        rintro e wd_ ⟨rfl, hb⟩
        clear kGD0 kGD1 kGDy kGDz
        clear kGA0 kGA1 kGAy kGAz
        clear kGB0 kGB1 kGBy kGBz
        clear kGC0 kGC1 kGCy kGCz
        have HBd_ := Lib.hid (HBc.out.trans (hb.mono HBc.out.size))
        replace GD := Lib.hid (blk_below GD.out hb)
        replace RD := Lib.hid (RD.out.below hb)
        replace GA := Lib.hid (blk_below GA.out hb)
        replace RA := Lib.hid (RA.out.below hb)
        replace GB := Lib.hid (blk_below GB.out hb)
        replace RB := Lib.hid (RB.out.below hb)
        replace GC := Lib.hid (blk_below GC.out hb)
        replace RC := Lib.hid (RC.out.below hb)
        clear HC hb
        obtain ⟨kGD0, kGD1, kGDy, kGDz⟩ := cell_of_two GD.out
        obtain ⟨kGA0, kGA1, kGAy, kGAz⟩ := cell_of_two GA.out
        obtain ⟨kGB0, kGB1, kGBy, kGBz⟩ := cell_of_two GB.out
        obtain ⟨kGC0, kGC1, kGCy, kGCz⟩ := cell_of_two GC.out
        have HC := Lib.hid (HIDS.out wd_ HBd_.out)
        go_wp2_with fail
        (with_reducible refine HC.out.mono ?_)
        rintro e we ⟨rfl, hb⟩
        clear kGD0 kGD1 kGDy kGDz
        clear kGA0 kGA1 kGAy kGAz
        clear kGB0 kGB1 kGBy kGBz
        clear kGC0 kGC1 kGCy kGCz
        have HBe := Lib.hid (HBd_.out.trans (hb.mono HBd_.out.size))
        replace GD := Lib.hid (blk_below GD.out hb)
        replace RD := Lib.hid (RD.out.below hb)
        replace GA := Lib.hid (blk_below GA.out hb)
        replace RA := Lib.hid (RA.out.below hb)
        replace GB := Lib.hid (blk_below GB.out hb)
        replace RB := Lib.hid (RB.out.below hb)
        replace GC := Lib.hid (blk_below GC.out hb)
        replace RC := Lib.hid (RC.out.below hb)
        clear HC hb
        obtain ⟨kGD0, kGD1, kGDy, kGDz⟩ := cell_of_two GD.out
        obtain ⟨kGA0, kGA1, kGAy, kGAz⟩ := cell_of_two GA.out
        obtain ⟨kGB0, kGB1, kGBy, kGBz⟩ := cell_of_two GB.out
        obtain ⟨kGC0, kGC1, kGCy, kGCz⟩ := cell_of_two GC.out
        by_cases hts : t = s
        · have m1 : (t.toList == s.toList) = true := by rw [hts]; exact beq_yes _
          have m2 : (t.toList != s.toList) = false := by rw [bne, m1]; rfl
          by_cases hew : ew = 0
          · have n1 : (ew == 0) = true := by rw [hew]; rfl
            clear hew hts
            have HC := Lib.hid (stores_any we (HT.out _ HBe.out))
            go_wp2_with fail
            (with_reducible refine HC.out.mono ?_)
            rintro e wes ⟨rfl, hb⟩
            clear kGD0 kGD1 kGDy kGDz
            clear kGA0 kGA1 kGAy kGAz
            clear kGB0 kGB1 kGBy kGBz
            clear kGC0 kGC1 kGCy kGCz
            have HBes := Lib.hid (HBe.out.trans (hb.mono HBe.out.size))
            replace GD := Lib.hid (blk_below GD.out hb)
            replace RD := Lib.hid (RD.out.below hb)
            replace GA := Lib.hid (blk_below GA.out hb)
            replace RA := Lib.hid (RA.out.below hb)
            replace GB := Lib.hid (blk_below GB.out hb)
            replace RB := Lib.hid (RB.out.below hb)
            replace GC := Lib.hid (blk_below GC.out hb)
            replace RC := Lib.hid (RC.out.below hb)
            clear HC hb
            obtain ⟨kGD0, kGD1, kGDy, kGDz⟩ := cell_of_two GD.out
            obtain ⟨kGA0, kGA1, kGAy, kGAz⟩ := cell_of_two GA.out
            obtain ⟨kGB0, kGB1, kGBy, kGBz⟩ := cell_of_two GB.out
            obtain ⟨kGC0, kGC1, kGCy, kGCz⟩ := cell_of_two GC.out
            go_wp2_with fail
            go_ret
            exact ⟨rfl, HBes.out⟩
          · have n1 : (ew == 0) = false := beq_eq_false_iff_ne.2 hew
            obtain ⟨hu, hei⟩ := HLB.out hts hew
            have u1 : (u.toList == s.toList) = true := by rw [hu]; exact beq_yes _
            have u2 : (ei == 0) = true := by rw [hei]; rfl
            clear hew hts hu hei
            have HC := Lib.hid (stores_any we (HT.out _ HBe.out))
            go_wp2_with fail
            (with_reducible refine HC.out.mono ?_)
            rintro e wes ⟨rfl, hb⟩
            clear kGD0 kGD1 kGDy kGDz
            clear kGA0 kGA1 kGAy kGAz
            clear kGB0 kGB1 kGBy kGBz
            clear kGC0 kGC1 kGCy kGCz
            have HBes := Lib.hid (HBe.out.trans (hb.mono HBe.out.size))
            replace GD := Lib.hid (blk_below GD.out hb)
            replace RD := Lib.hid (RD.out.below hb)
            replace GA := Lib.hid (blk_below GA.out hb)
            replace RA := Lib.hid (RA.out.below hb)
            replace GB := Lib.hid (blk_below GB.out hb)
            replace RB := Lib.hid (RB.out.below hb)
            replace GC := Lib.hid (blk_below GC.out hb)
            replace RC := Lib.hid (RC.out.below hb)
            clear HC hb
            obtain ⟨kGD0, kGD1, kGDy, kGDz⟩ := cell_of_two GD.out
            obtain ⟨kGA0, kGA1, kGAy, kGAz⟩ := cell_of_two GA.out
            obtain ⟨kGB0, kGB1, kGBy, kGBz⟩ := cell_of_two GB.out
            obtain ⟨kGC0, kGC1, kGCy, kGCz⟩ := cell_of_two GC.out
            go_wp2_with fail
            go_ret
            exact ⟨rfl, HBes.out⟩
        · have m1 : (t.toList == s.toList) = false := beq_no hts
          have m2 : (t.toList != s.toList) = true := by rw [bne, m1]; rfl
          have n1 : (ew == 0) = true := by rw [HLW.out hts]; rfl
          clear hts
          have HC := Lib.hid (HIDT.out we HBe.out)
          go_wp2_with fail
          (with_reducible refine HC.out.mono ?_)
          rintro e wf ⟨rfl, hb⟩
          clear kGD0 kGD1 kGDy kGDz
          clear kGA0 kGA1 kGAy kGAz
          clear kGB0 kGB1 kGBy kGBz
          clear kGC0 kGC1 kGCy kGCz
          have HBf := Lib.hid (HBe.out.trans (hb.mono HBe.out.size))
          replace GD := Lib.hid (blk_below GD.out hb)
          replace RD := Lib.hid (RD.out.below hb)
          replace GA := Lib.hid (blk_below GA.out hb)
          replace RA := Lib.hid (RA.out.below hb)
          replace GB := Lib.hid (blk_below GB.out hb)
          replace RB := Lib.hid (RB.out.below hb)
          replace GC := Lib.hid (blk_below GC.out hb)
          replace RC := Lib.hid (RC.out.below hb)
          clear HC hb
          obtain ⟨kGD0, kGD1, kGDy, kGDz⟩ := cell_of_two GD.out
          obtain ⟨kGA0, kGA1, kGAy, kGAz⟩ := cell_of_two GA.out
          obtain ⟨kGB0, kGB1, kGBy, kGBz⟩ := cell_of_two GB.out
          obtain ⟨kGC0, kGC1, kGCy, kGCz⟩ := cell_of_two GC.out
          have HC := Lib.hid (HIDS.out wf HBf.out)
          go_wp2_with fail
          (with_reducible refine HC.out.mono ?_)
          rintro e wg ⟨rfl, hb⟩
          clear kGD0 kGD1 kGDy kGDz
          clear kGA0 kGA1 kGAy kGAz
          clear kGB0 kGB1 kGBy kGBz
          clear kGC0 kGC1 kGCy kGCz
          have HBg := Lib.hid (HBf.out.trans (hb.mono HBf.out.size))
          replace GD := Lib.hid (blk_below GD.out hb)
          replace RD := Lib.hid (RD.out.below hb)
          replace GA := Lib.hid (blk_below GA.out hb)
          replace RA := Lib.hid (RA.out.below hb)
          replace GB := Lib.hid (blk_below GB.out hb)
          replace RB := Lib.hid (RB.out.below hb)
          replace GC := Lib.hid (blk_below GC.out hb)
          replace RC := Lib.hid (RC.out.below hb)
          clear HC hb
          obtain ⟨kGD0, kGD1, kGDy, kGDz⟩ := cell_of_two GD.out
          obtain ⟨kGA0, kGA1, kGAy, kGAz⟩ := cell_of_two GA.out
          obtain ⟨kGB0, kGB1, kGBy, kGBz⟩ := cell_of_two GB.out
          obtain ⟨kGC0, kGC1, kGCy, kGCz⟩ := cell_of_two GC.out
          have HC := Lib.hid (stores_any wg (HT.out _ HBg.out))
          go_wp2_with fail
          (with_reducible refine HC.out.mono ?_)
          rintro e wgs ⟨rfl, hb⟩
          clear kGD0 kGD1 kGDy kGDz
          clear kGA0 kGA1 kGAy kGAz
          clear kGB0 kGB1 kGBy kGBz
          clear kGC0 kGC1 kGCy kGCz
          have HBgs := Lib.hid (HBg.out.trans (hb.mono HBg.out.size))
          replace GD := Lib.hid (blk_below GD.out hb)
          replace RD := Lib.hid (RD.out.below hb)
          replace GA := Lib.hid (blk_below GA.out hb)
          replace RA := Lib.hid (RA.out.below hb)
          replace GB := Lib.hid (blk_below GB.out hb)
          replace RB := Lib.hid (RB.out.below hb)
          replace GC := Lib.hid (blk_below GC.out hb)
          replace RC := Lib.hid (RC.out.below hb)
          clear HC hb
          obtain ⟨kGD0, kGD1, kGDy, kGDz⟩ := cell_of_two GD.out
          obtain ⟨kGA0, kGA1, kGAy, kGAz⟩ := cell_of_two GA.out
          obtain ⟨kGB0, kGB1, kGBy, kGBz⟩ := cell_of_two GB.out
          obtain ⟨kGC0, kGC1, kGCy, kGCz⟩ := cell_of_two GC.out
          go_wp2_with fail
          go_ret
          exact ⟨rfl, HBgs.out⟩
      · (refine Twin.ro_loud (by rfl) (fun K hK => ?_); go_simp)
        have hb := (Below.refl wd.heap.size wd).alloc (Nat.le_refl _) (.cells #[.slice none 0 0, .int .i64 0] 38)
        have hgN := heap_alloc_new wd (.cells #[.slice none 0 0, .int .i64 0] 38)
        obtain ⟨w6, hw6⟩ : ∃ x, wd.alloc (.cells #[.slice none 0 0, .int .i64 0] 38) = x := ⟨_, rfl⟩
        obtain ⟨nb, hnb⟩ : ∃ x, x = wd.heap.size := ⟨_, rfl⟩
        have HLGD := Lib.hid (show _ < nb by rw [hnb]; exact lt_of_block GD.out)
        have HLGA := Lib.hid (show _ < nb by rw [hnb]; exact lt_of_block GA.out)
        have HLGB := Lib.hid (show _ < nb by rw [hnb]; exact lt_of_block GB.out)
        have HWN := Lib.hid (show w.heap.size ≤ nb by rw [hnb]; exact HBd.out.size)
        rw [hw6] at hb hgN
        rw [← hnb] at hgN
        have GN := Lib.hid hgN
        have HB6 := Lib.hid (HBd.out.trans (hb.mono HBd.out.size))
        replace GD := Lib.hid (blk_below GD.out hb)
        replace RD := Lib.hid (RD.out.below hb)
        replace GA := Lib.hid (blk_below GA.out hb)
        replace RA := Lib.hid (RA.out.below hb)
        replace GB := Lib.hid (blk_below GB.out hb)
        replace RB := Lib.hid (RB.out.below hb)
        clear hb hgN
        (refine hK.out _ _ (fun w' => w'.cell? ⟨ga, 0, none⟩ = some (.slice a1 al.length c1) ∧ w'.cell? ⟨ga, 1, none⟩ = some (.int .i64 af)) (.inl fun _ h => h) (hw6 ▸ (let h := cell_of_two GA.out; ⟨h.1, h.2.1⟩)) ?_; clear hK K; try simp only [Act.put, List.setIfInBounds_toArray, List.set_cons_zero, List.set_cons_succ])
        rw [hw6]
        try rw [← hnb]
        clear hw6 hnb
        try (repeat (first | (refine Twin.ro_q (by rfl) (v := ?_) ?_ ?_; rotate_left; (focus (intro w' hSw; (try dsimp only at hSw); go_simp; try with_reducible rfl)); simp only [Act.put, List.setIfInBounds_toArray, List.set_cons_zero, List.set_cons_succ]) | (refine Twin.ro_skip (by rfl) ?_; simp only [Act.put, List.setIfInBounds_toArray, List.set_cons_zero, List.set_cons_succ])))
        (refine Twin.ro_loud (by rfl) (fun K hK => ?_); go_simp)
        (with_reducible refine (HCR.out w6 RA.out).mono ?_)
        rintro e w5 ⟨v5, rfl, hrc, hb⟩
        obtain ⟨a5, c5, rfl⟩ := rd_form hrc
        have RC := Lib.hid hrc
        have HB5 := Lib.hid (HB6.out.trans (hb.mono HB6.out.size))
        replace GD := Lib.hid (blk_below GD.out hb)
        replace RD := Lib.hid (RD.out.below hb)
        replace GA := Lib.hid (blk_below GA.out hb)
        replace RA := Lib.hid (RA.out.below hb)
        replace GB := Lib.hid (blk_below GB.out hb)
        replace RB := Lib.hid (RB.out.below hb)
        replace GN := Lib.hid (blk_below GN.out hb)
        clear hb hrc
        (refine hK.out _ _ (fun w' => w'.cell? ⟨ga, 0, none⟩ = some (.slice a1 al.length c1) ∧ w'.cell? ⟨ga, 1, none⟩ = some (.int .i64 af)) (.inl fun _ h => h) ((let h := cell_of_two GA.out; ⟨h.1, h.2.1⟩)) ?_; clear hK K; try simp only [Act.put, List.setIfInBounds_toArray, List.set_cons_zero, List.set_cons_succ])
        repeat (first | (refine Twin.ro_q (by rfl) (v := ?_) ?_ ?_; rotate_left; (focus (intro w' hSw; (try dsimp only at hSw); go_simp; try with_reducible rfl)); simp only [Act.put, List.setIfInBounds_toArray, List.set_cons_zero, List.set_cons_succ]) | (refine Twin.ro_skip (by rfl) ?_; simp only [Act.put, List.setIfInBounds_toArray, List.set_cons_zero, List.set_cons_succ]))
        (refine Twin.ro_loud (by rfl) (fun K hK => ?_))
        refine wp_store_blkS 38 (.tmp 15) (.tmp 53) rfl nb #[.slice a5 cl.length c5, .int .i64 (-1)] rfl rfl (old := _) GN.out (by kernel_rfl) rfl (by simp [Value.oneCell']) ?_
        intro w9 gz uz
        have GC := Lib.hid gz
        have HB9 := Lib.hid (below_upd HB5.out uz HWN.out HB5.out.size)
        replace GD := Lib.hid (blk_upd GD.out uz (Nat.ne_of_lt HLGD.out))
        replace RD := Lib.hid (rdF_upd RD.out uz (no_str GN.out))
        replace GA := Lib.hid (blk_upd GA.out uz (Nat.ne_of_lt HLGA.out))
        replace RA := Lib.hid (rdF_upd RA.out uz (no_str GN.out))
        replace GB := Lib.hid (blk_upd GB.out uz (Nat.ne_of_lt HLGB.out))
        replace RB := Lib.hid (rdF_upd RB.out uz (no_str GN.out))
        replace RC := Lib.hid (rdF_upd RC.out uz (no_str GN.out))
        clear gz uz
        (refine hK.out _ _ (fun w' => w'.cell? ⟨ga, 0, none⟩ = some (.slice a1 al.length c1) ∧ w'.cell? ⟨ga, 1, none⟩ = some (.int .i64 af)) (.inl fun _ h => h) ((let h := cell_of_two GA.out; ⟨h.1, h.2.1⟩)) ?_; clear hK K; try simp only [Act.put, List.setIfInBounds_toArray, List.set_cons_zero, List.set_cons_succ])
        try repeat (first | (refine Twin.ro_q (by rfl) (v := ?_) ?_ ?_; rotate_left; (focus (intro w' hSw; (try dsimp only at hSw); go_simp; try with_reducible rfl)); simp only [Act.put, List.setIfInBounds_toArray, List.set_cons_zero, List.set_cons_succ]) | (refine Twin.ro_skip (by rfl) ?_; simp only [Act.put, List.setIfInBounds_toArray, List.set_cons_zero, List.set_cons_succ]))
        refine Twin.ro_nil ?_
        obtain ⟨kGD0, kGD1, kGDy, kGDz⟩ := cell_of_two GD.out
        obtain ⟨kGA0, kGA1, kGAy, kGAz⟩ := cell_of_two GA.out
        obtain ⟨kGB0, kGB1, kGBy, kGBz⟩ := cell_of_two GB.out
        obtain ⟨kGC0, kGC1, kGCy, kGCz⟩ := cell_of_two GC.out
        have HC := Lib.hid ((HG_a.out _ RA.out HB9.out))
        go_wp2_with fail
        (with_reducible refine HC.out.mono ?_)
        rintro e wa ⟨rfl, hb⟩
        clear kGD0 kGD1 kGDy kGDz
        clear kGA0 kGA1 kGAy kGAz
        clear kGB0 kGB1 kGBy kGBz
        clear kGC0 kGC1 kGCy kGCz
        have HBa := Lib.hid (HB9.out.trans (hb.mono HB9.out.size))
        replace GD := Lib.hid (blk_below GD.out hb)
        replace RD := Lib.hid (RD.out.below hb)
        replace GA := Lib.hid (blk_below GA.out hb)
        replace RA := Lib.hid (RA.out.below hb)
        replace GB := Lib.hid (blk_below GB.out hb)
        replace RB := Lib.hid (RB.out.below hb)
        replace GC := Lib.hid (blk_below GC.out hb)
        replace RC := Lib.hid (RC.out.below hb)
        clear HC hb
        obtain ⟨kGD0, kGD1, kGDy, kGDz⟩ := cell_of_two GD.out
        obtain ⟨kGA0, kGA1, kGAy, kGAz⟩ := cell_of_two GA.out
        obtain ⟨kGB0, kGB1, kGBy, kGBz⟩ := cell_of_two GB.out
        obtain ⟨kGC0, kGC1, kGCy, kGCz⟩ := cell_of_two GC.out
        have HC := Lib.hid ((HG_b.out _ RD.out HBa.out))
        go_wp2_with fail
        (with_reducible refine HC.out.mono ?_)
        rintro e wb ⟨rfl, hb⟩
        clear kGD0 kGD1 kGDy kGDz
        clear kGA0 kGA1 kGAy kGAz
        clear kGB0 kGB1 kGBy kGBz
        clear kGC0 kGC1 kGCy kGCz
        have HBb := Lib.hid (HBa.out.trans (hb.mono HBa.out.size))
        replace GD := Lib.hid (blk_below GD.out hb)
        replace RD := Lib.hid (RD.out.below hb)
        replace GA := Lib.hid (blk_below GA.out hb)
        replace RA := Lib.hid (RA.out.below hb)
        replace GB := Lib.hid (blk_below GB.out hb)
        replace RB := Lib.hid (RB.out.below hb)
        replace GC := Lib.hid (blk_below GC.out hb)
        replace RC := Lib.hid (RC.out.below hb)
        clear HC hb
        obtain ⟨kGD0, kGD1, kGDy, kGDz⟩ := cell_of_two GD.out
        obtain ⟨kGA0, kGA1, kGAy, kGAz⟩ := cell_of_two GA.out
        obtain ⟨kGB0, kGB1, kGBy, kGBz⟩ := cell_of_two GB.out
        obtain ⟨kGC0, kGC1, kGCy, kGCz⟩ := cell_of_two GC.out
        have HC := Lib.hid ((HG_c.out _ _ _ RC.out HBb.out))
        go_wp2_with fail
        (with_reducible refine HC.out.mono ?_)
        rintro e wc ⟨rfl, hb⟩
        clear kGD0 kGD1 kGDy kGDz
        clear kGA0 kGA1 kGAy kGAz
        clear kGB0 kGB1 kGBy kGBz
        clear kGC0 kGC1 kGCy kGCz
        have HBc := Lib.hid (HBb.out.trans (hb.mono HBb.out.size))
        replace GD := Lib.hid (blk_below GD.out hb)
        replace RD := Lib.hid (RD.out.below hb)
        replace GA := Lib.hid (blk_below GA.out hb)
        replace RA := Lib.hid (RA.out.below hb)
        replace GB := Lib.hid (blk_below GB.out hb)
        replace RB := Lib.hid (RB.out.below hb)
        replace GC := Lib.hid (blk_below GC.out hb)
        replace RC := Lib.hid (RC.out.below hb)
        clear HC hb
        obtain ⟨kGD0, kGD1, kGDy, kGDz⟩ := cell_of_two GD.out
        obtain ⟨kGA0, kGA1, kGAy, kGAz⟩ := cell_of_two GA.out
        obtain ⟨kGB0, kGB1, kGBy, kGBz⟩ := cell_of_two GB.out
        obtain ⟨kGC0, kGC1, kGCy, kGCz⟩ := cell_of_two GC.out
        have HC := Lib.hid (sameDisk_any al af _ _ wc RB.out RA.out)
        go_wp2_with fail
        (with_reducible refine HC.out.mono ?_)
        rintro e wd_ ⟨rfl, hb⟩
        clear kGD0 kGD1 kGDy kGDz
        clear kGA0 kGA1 kGAy kGAz
        clear kGB0 kGB1 kGBy kGBz
        clear kGC0 kGC1 kGCy kGCz
        have HBd_ := Lib.hid (HBc.out.trans (hb.mono HBc.out.size))
        replace GD := Lib.hid (blk_below GD.out hb)
        replace RD := Lib.hid (RD.out.below hb)
        replace GA := Lib.hid (blk_below GA.out hb)
        replace RA := Lib.hid (RA.out.below hb)
        replace GB := Lib.hid (blk_below GB.out hb)
        replace RB := Lib.hid (RB.out.below hb)
        replace GC := Lib.hid (blk_below GC.out hb)
        replace RC := Lib.hid (RC.out.below hb)
        clear HC hb
        obtain ⟨kGD0, kGD1, kGDy, kGDz⟩ := cell_of_two GD.out
        obtain ⟨kGA0, kGA1, kGAy, kGAz⟩ := cell_of_two GA.out
        obtain ⟨kGB0, kGB1, kGBy, kGBz⟩ := cell_of_two GB.out
        obtain ⟨kGC0, kGC1, kGCy, kGCz⟩ := cell_of_two GC.out
        have HC := Lib.hid (HIDS.out wd_ HBd_.out)
        go_wp2_with fail
        (with_reducible refine HC.out.mono ?_)
        rintro e we ⟨rfl, hb⟩
        clear kGD0 kGD1 kGDy kGDz
        clear kGA0 kGA1 kGAy kGAz
        clear kGB0 kGB1 kGBy kGBz
        clear kGC0 kGC1 kGCy kGCz
        have HBe := Lib.hid (HBd_.out.trans (hb.mono HBd_.out.size))
        replace GD := Lib.hid (blk_below GD.out hb)
        replace RD := Lib.hid (RD.out.below hb)
        replace GA := Lib.hid (blk_below GA.out hb)
        replace RA := Lib.hid (RA.out.below hb)
        replace GB := Lib.hid (blk_below GB.out hb)
        replace RB := Lib.hid (RB.out.below hb)
        replace GC := Lib.hid (blk_below GC.out hb)
        replace RC := Lib.hid (RC.out.below hb)
        clear HC hb
        obtain ⟨kGD0, kGD1, kGDy, kGDz⟩ := cell_of_two GD.out
        obtain ⟨kGA0, kGA1, kGAy, kGAz⟩ := cell_of_two GA.out
        obtain ⟨kGB0, kGB1, kGBy, kGBz⟩ := cell_of_two GB.out
        obtain ⟨kGC0, kGC1, kGCy, kGCz⟩ := cell_of_two GC.out
        by_cases hts : t = s
        · have m1 : (t.toList == s.toList) = true := by rw [hts]; exact beq_yes _
          have m2 : (t.toList != s.toList) = false := by rw [bne, m1]; rfl
          by_cases hew : ew = 0
          · have n1 : (ew == 0) = true := by rw [hew]; rfl
            clear hew hts
            have HC := Lib.hid (stores_any we (HT.out _ HBe.out))
            go_wp2_with fail
            (with_reducible refine HC.out.mono ?_)
            rintro e wes ⟨rfl, hb⟩
            clear kGD0 kGD1 kGDy kGDz
            clear kGA0 kGA1 kGAy kGAz
            clear kGB0 kGB1 kGBy kGBz
            clear kGC0 kGC1 kGCy kGCz
            have HBes := Lib.hid (HBe.out.trans (hb.mono HBe.out.size))
            replace GD := Lib.hid (blk_below GD.out hb)
            replace RD := Lib.hid (RD.out.below hb)
            replace GA := Lib.hid (blk_below GA.out hb)
            replace RA := Lib.hid (RA.out.below hb)
            replace GB := Lib.hid (blk_below GB.out hb)
            replace RB := Lib.hid (RB.out.below hb)
            replace GC := Lib.hid (blk_below GC.out hb)
            replace RC := Lib.hid (RC.out.below hb)
            clear HC hb
            obtain ⟨kGD0, kGD1, kGDy, kGDz⟩ := cell_of_two GD.out
            obtain ⟨kGA0, kGA1, kGAy, kGAz⟩ := cell_of_two GA.out
            obtain ⟨kGB0, kGB1, kGBy, kGBz⟩ := cell_of_two GB.out
            obtain ⟨kGC0, kGC1, kGCy, kGCz⟩ := cell_of_two GC.out
            go_wp2_with fail
            go_ret
            exact ⟨rfl, HBes.out⟩
          · have n1 : (ew == 0) = false := beq_eq_false_iff_ne.2 hew
            obtain ⟨hu, hei⟩ := HLB.out hts hew
            have u1 : (u.toList == s.toList) = true := by rw [hu]; exact beq_yes _
            have u2 : (ei == 0) = true := by rw [hei]; rfl
            clear hew hts hu hei
            have HC := Lib.hid (stores_any we (HT.out _ HBe.out))
            go_wp2_with fail
            (with_reducible refine HC.out.mono ?_)
            rintro e wes ⟨rfl, hb⟩
            clear kGD0 kGD1 kGDy kGDz
            clear kGA0 kGA1 kGAy kGAz
            clear kGB0 kGB1 kGBy kGBz
            clear kGC0 kGC1 kGCy kGCz
            have HBes := Lib.hid (HBe.out.trans (hb.mono HBe.out.size))
            replace GD := Lib.hid (blk_below GD.out hb)
            replace RD := Lib.hid (RD.out.below hb)
            replace GA := Lib.hid (blk_below GA.out hb)
            replace RA := Lib.hid (RA.out.below hb)
            replace GB := Lib.hid (blk_below GB.out hb)
            replace RB := Lib.hid (RB.out.below hb)
            replace GC := Lib.hid (blk_below GC.out hb)
            replace RC := Lib.hid (RC.out.below hb)
            clear HC hb
            obtain ⟨kGD0, kGD1, kGDy, kGDz⟩ := cell_of_two GD.out
            obtain ⟨kGA0, kGA1, kGAy, kGAz⟩ := cell_of_two GA.out
            obtain ⟨kGB0, kGB1, kGBy, kGBz⟩ := cell_of_two GB.out
            obtain ⟨kGC0, kGC1, kGCy, kGCz⟩ := cell_of_two GC.out
            go_wp2_with fail
            go_ret
            exact ⟨rfl, HBes.out⟩
        · have m1 : (t.toList == s.toList) = false := beq_no hts
          have m2 : (t.toList != s.toList) = true := by rw [bne, m1]; rfl
          have n1 : (ew == 0) = true := by rw [HLW.out hts]; rfl
          clear hts
          have HC := Lib.hid (HIDT.out we HBe.out)
          go_wp2_with fail
          (with_reducible refine HC.out.mono ?_)
          rintro e wf ⟨rfl, hb⟩
          clear kGD0 kGD1 kGDy kGDz
          clear kGA0 kGA1 kGAy kGAz
          clear kGB0 kGB1 kGBy kGBz
          clear kGC0 kGC1 kGCy kGCz
          have HBf := Lib.hid (HBe.out.trans (hb.mono HBe.out.size))
          replace GD := Lib.hid (blk_below GD.out hb)
          replace RD := Lib.hid (RD.out.below hb)
          replace GA := Lib.hid (blk_below GA.out hb)
          replace RA := Lib.hid (RA.out.below hb)
          replace GB := Lib.hid (blk_below GB.out hb)
          replace RB := Lib.hid (RB.out.below hb)
          replace GC := Lib.hid (blk_below GC.out hb)
          replace RC := Lib.hid (RC.out.below hb)
          clear HC hb
          obtain ⟨kGD0, kGD1, kGDy, kGDz⟩ := cell_of_two GD.out
          obtain ⟨kGA0, kGA1, kGAy, kGAz⟩ := cell_of_two GA.out
          obtain ⟨kGB0, kGB1, kGBy, kGBz⟩ := cell_of_two GB.out
          obtain ⟨kGC0, kGC1, kGCy, kGCz⟩ := cell_of_two GC.out
          have HC := Lib.hid (HIDS.out wf HBf.out)
          go_wp2_with fail
          (with_reducible refine HC.out.mono ?_)
          rintro e wg ⟨rfl, hb⟩
          clear kGD0 kGD1 kGDy kGDz
          clear kGA0 kGA1 kGAy kGAz
          clear kGB0 kGB1 kGBy kGBz
          clear kGC0 kGC1 kGCy kGCz
          have HBg := Lib.hid (HBf.out.trans (hb.mono HBf.out.size))
          replace GD := Lib.hid (blk_below GD.out hb)
          replace RD := Lib.hid (RD.out.below hb)
          replace GA := Lib.hid (blk_below GA.out hb)
          replace RA := Lib.hid (RA.out.below hb)
          replace GB := Lib.hid (blk_below GB.out hb)
          replace RB := Lib.hid (RB.out.below hb)
          replace GC := Lib.hid (blk_below GC.out hb)
          replace RC := Lib.hid (RC.out.below hb)
          clear HC hb
          obtain ⟨kGD0, kGD1, kGDy, kGDz⟩ := cell_of_two GD.out
          obtain ⟨kGA0, kGA1, kGAy, kGAz⟩ := cell_of_two GA.out
          obtain ⟨kGB0, kGB1, kGBy, kGBz⟩ := cell_of_two GB.out
          obtain ⟨kGC0, kGC1, kGCy, kGCz⟩ := cell_of_two GC.out
          have HC := Lib.hid (stores_any wg (HT.out _ HBg.out))
          go_wp2_with fail
          (with_reducible refine HC.out.mono ?_)
          rintro e wgs ⟨rfl, hb⟩
          clear kGD0 kGD1 kGDy kGDz
          clear kGA0 kGA1 kGAy kGAz
          clear kGB0 kGB1 kGBy kGBz
          clear kGC0 kGC1 kGCy kGCz
          have HBgs := Lib.hid (HBg.out.trans (hb.mono HBg.out.size))
          replace GD := Lib.hid (blk_below GD.out hb)
          replace RD := Lib.hid (RD.out.below hb)
          replace GA := Lib.hid (blk_below GA.out hb)
          replace RA := Lib.hid (RA.out.below hb)
          replace GB := Lib.hid (blk_below GB.out hb)
          replace RB := Lib.hid (RB.out.below hb)
          replace GC := Lib.hid (blk_below GC.out hb)
          replace RC := Lib.hid (RC.out.below hb)
          clear HC hb
          obtain ⟨kGD0, kGD1, kGDy, kGDz⟩ := cell_of_two GD.out
          obtain ⟨kGA0, kGA1, kGAy, kGAz⟩ := cell_of_two GA.out
          obtain ⟨kGB0, kGB1, kGBy, kGBz⟩ := cell_of_two GB.out
          obtain ⟨kGC0, kGC1, kGCy, kGCz⟩ := cell_of_two GC.out
          go_wp2_with fail
          go_ret
          exact ⟨rfl, HBgs.out⟩
    · (refine Twin.ro_loud (by rfl) (fun K hK => ?_); go_simp)
      have hb := (Below.refl wd.heap.size wd).alloc (Nat.le_refl _) (.cells #[.slice none 0 0, .int .i64 0] 38)
      have hgN := heap_alloc_new wd (.cells #[.slice none 0 0, .int .i64 0] 38)
      obtain ⟨w6, hw6⟩ : ∃ x, wd.alloc (.cells #[.slice none 0 0, .int .i64 0] 38) = x := ⟨_, rfl⟩
      obtain ⟨nb, hnb⟩ : ∃ x, x = wd.heap.size := ⟨_, rfl⟩
      have HLGD := Lib.hid (show _ < nb by rw [hnb]; exact lt_of_block GD.out)
      have HLGA := Lib.hid (show _ < nb by rw [hnb]; exact lt_of_block GA.out)
      have HLGB := Lib.hid (show _ < nb by rw [hnb]; exact lt_of_block GB.out)
      have HWN := Lib.hid (show w.heap.size ≤ nb by rw [hnb]; exact HBd.out.size)
      rw [hw6] at hb hgN
      rw [← hnb] at hgN
      have GN := Lib.hid hgN
      have HB6 := Lib.hid (HBd.out.trans (hb.mono HBd.out.size))
      replace GD := Lib.hid (blk_below GD.out hb)
      replace RD := Lib.hid (RD.out.below hb)
      replace GA := Lib.hid (blk_below GA.out hb)
      replace RA := Lib.hid (RA.out.below hb)
      replace GB := Lib.hid (blk_below GB.out hb)
      replace RB := Lib.hid (RB.out.below hb)
      clear hb hgN
      (refine hK.out _ _ (fun w' => w'.cell? ⟨ga, 0, none⟩ = some (.slice a1 al.length c1) ∧ w'.cell? ⟨ga, 1, none⟩ = some (.int .i64 af)) (.inl fun _ h => h) (hw6 ▸ (let h := cell_of_two GA.out; ⟨h.1, h.2.1⟩)) ?_; clear hK K; try simp only [Act.put, List.setIfInBounds_toArray, List.set_cons_zero, List.set_cons_succ])
      rw [hw6]
      try rw [← hnb]
      clear hw6 hnb
      try (repeat (first | (refine Twin.ro_q (by rfl) (v := ?_) ?_ ?_; rotate_left; (focus (intro w' hSw; (try dsimp only at hSw); go_simp; try with_reducible rfl)); simp only [Act.put, List.setIfInBounds_toArray, List.set_cons_zero, List.set_cons_succ]) | (refine Twin.ro_skip (by rfl) ?_; simp only [Act.put, List.setIfInBounds_toArray, List.set_cons_zero, List.set_cons_succ])))
      (refine Twin.ro_loud (by rfl) (fun K hK => ?_); go_simp)
      (with_reducible refine (pick100 keep _ HKE.out).mono ?_)
      rintro e wq ⟨rfl, rfl⟩
      rw [← HKK.out]
      (refine hK.out _ _ (fun w' => w'.cell? ⟨ga, 0, none⟩ = some (.slice a1 al.length c1) ∧ w'.cell? ⟨ga, 1, none⟩ = some (.int .i64 af)) (.inl fun _ h => h) ((let h := cell_of_two GA.out; ⟨h.1, h.2.1⟩)) ?_; clear hK K; try simp only [Act.put, List.setIfInBounds_toArray, List.set_cons_zero, List.set_cons_succ])
      try repeat (first | (refine Twin.ro_q (by rfl) (v := ?_) ?_ ?_; rotate_left; (focus (intro w' hSw; (try dsimp only at hSw); go_simp; try with_reducible rfl)); simp only [Act.put, List.setIfInBounds_toArray, List.set_cons_zero, List.set_cons_succ]) | (refine Twin.ro_skip (by rfl) ?_; simp only [Act.put, List.setIfInBounds_toArray, List.set_cons_zero, List.set_cons_succ]))
      (refine Twin.ro_loud (by rfl) (fun K hK => ?_); go_simp)
      (with_reducible refine (HCR.out w6 RA.out).mono ?_)
      rintro e w5 ⟨v5, rfl, hrc, hb⟩
      obtain ⟨a5, c5, rfl⟩ := rd_form hrc
      have RC := Lib.hid hrc
      have HB5 := Lib.hid (HB6.out.trans (hb.mono HB6.out.size))
      replace GD := Lib.hid (blk_below GD.out hb)
      replace RD := Lib.hid (RD.out.below hb)
      replace GA := Lib.hid (blk_below GA.out hb)
      replace RA := Lib.hid (RA.out.below hb)
      replace GB := Lib.hid (blk_below GB.out hb)
      replace RB := Lib.hid (RB.out.below hb)
      replace GN := Lib.hid (blk_below GN.out hb)
      clear hb hrc
      (refine hK.out _ _ (fun w' => w'.cell? ⟨ga, 0, none⟩ = some (.slice a1 al.length c1) ∧ w'.cell? ⟨ga, 1, none⟩ = some (.int .i64 af)) (.inl fun _ h => h) ((let h := cell_of_two GA.out; ⟨h.1, h.2.1⟩)) ?_; clear hK K; try simp only [Act.put, List.setIfInBounds_toArray, List.set_cons_zero, List.set_cons_succ])
      repeat (first | (refine Twin.ro_q (by rfl) (v := ?_) ?_ ?_; rotate_left; (focus (intro w' hSw; (try dsimp only at hSw); go_simp; try with_reducible rfl)); simp only [Act.put, List.setIfInBounds_toArray, List.set_cons_zero, List.set_cons_succ]) | (refine Twin.ro_skip (by rfl) ?_; simp only [Act.put, List.setIfInBounds_toArray, List.set_cons_zero, List.set_cons_succ]))
      (refine Twin.ro_loud (by rfl) (fun K hK => ?_))
      refine wp_store_blkS 38 (.tmp 15) (.tmp 53) rfl nb #[.slice a5 cl.length c5, .int .i64 (-1)] rfl rfl (old := _) GN.out (by kernel_rfl) rfl (by simp [Value.oneCell']) ?_
      intro w9 gz uz
      have GC := Lib.hid gz
      have HB9 := Lib.hid (below_upd HB5.out uz HWN.out HB5.out.size)
      replace GD := Lib.hid (blk_upd GD.out uz (Nat.ne_of_lt HLGD.out))
      replace RD := Lib.hid (rdF_upd RD.out uz (no_str GN.out))
      replace GA := Lib.hid (blk_upd GA.out uz (Nat.ne_of_lt HLGA.out))
      replace RA := Lib.hid (rdF_upd RA.out uz (no_str GN.out))
      replace GB := Lib.hid (blk_upd GB.out uz (Nat.ne_of_lt HLGB.out))
      replace RB := Lib.hid (rdF_upd RB.out uz (no_str GN.out))
      replace RC := Lib.hid (rdF_upd RC.out uz (no_str GN.out))
      clear gz uz
      (refine hK.out _ _ (fun w' => w'.cell? ⟨ga, 0, none⟩ = some (.slice a1 al.length c1) ∧ w'.cell? ⟨ga, 1, none⟩ = some (.int .i64 af)) (.inl fun _ h => h) ((let h := cell_of_two GA.out; ⟨h.1, h.2.1⟩)) ?_; clear hK K; try simp only [Act.put, List.setIfInBounds_toArray, List.set_cons_zero, List.set_cons_succ])
      try repeat (first | (refine Twin.ro_q (by rfl) (v := ?_) ?_ ?_; rotate_left; (focus (intro w' hSw; (try dsimp only at hSw); go_simp; try with_reducible rfl)); simp only [Act.put, List.setIfInBounds_toArray, List.set_cons_zero, List.set_cons_succ]) | (refine Twin.ro_skip (by rfl) ?_; simp only [Act.put, List.setIfInBounds_toArray, List.set_cons_zero, List.set_cons_succ]))
      refine Twin.ro_nil ?_
      obtain ⟨kGD0, kGD1, kGDy, kGDz⟩ := cell_of_two GD.out
      obtain ⟨kGA0, kGA1, kGAy, kGAz⟩ := cell_of_two GA.out
      obtain ⟨kGB0, kGB1, kGBy, kGBz⟩ := cell_of_two GB.out
      obtain ⟨kGC0, kGC1, kGCy, kGCz⟩ := cell_of_two GC.out
      have HC := Lib.hid ((HG_a.out _ RA.out HB9.out))
      go_wp2_with fail
      (with_reducible refine HC.out.mono ?_)
      rintro e wa ⟨rfl, hb⟩
      clear kGD0 kGD1 kGDy kGDz
      clear kGA0 kGA1 kGAy kGAz
      clear kGB0 kGB1 kGBy kGBz
      clear kGC0 kGC1 kGCy kGCz
      have HBa := Lib.hid (HB9.out.trans (hb.mono HB9.out.size))
      replace GD := Lib.hid (blk_below GD.out hb)
      replace RD := Lib.hid (RD.out.below hb)
      replace GA := Lib.hid (blk_below GA.out hb)
      replace RA := Lib.hid (RA.out.below hb)
      replace GB := Lib.hid (blk_below GB.out hb)
      replace RB := Lib.hid (RB.out.below hb)
      replace GC := Lib.hid (blk_below GC.out hb)
      replace RC := Lib.hid (RC.out.below hb)
      clear HC hb
      obtain ⟨kGD0, kGD1, kGDy, kGDz⟩ := cell_of_two GD.out
      obtain ⟨kGA0, kGA1, kGAy, kGAz⟩ := cell_of_two GA.out
      obtain ⟨kGB0, kGB1, kGBy, kGBz⟩ := cell_of_two GB.out
      obtain ⟨kGC0, kGC1, kGCy, kGCz⟩ := cell_of_two GC.out
      have HC := Lib.hid ((HG_b.out _ RD.out HBa.out))
      go_wp2_with fail
      (with_reducible refine HC.out.mono ?_)
      rintro e wb ⟨rfl, hb⟩
      clear kGD0 kGD1 kGDy kGDz
      clear kGA0 kGA1 kGAy kGAz
      clear kGB0 kGB1 kGBy kGBz
      clear kGC0 kGC1 kGCy kGCz
      have HBb := Lib.hid (HBa.out.trans (hb.mono HBa.out.size))
      replace GD := Lib.hid (blk_below GD.out hb)
      replace RD := Lib.hid (RD.out.below hb)
      replace GA := Lib.hid (blk_below GA.out hb)
      replace RA := Lib.hid (RA.out.below hb)
      replace GB := Lib.hid (blk_below GB.out hb)
      replace RB := Lib.hid (RB.out.below hb)
      replace GC := Lib.hid (blk_below GC.out hb)
      replace RC := Lib.hid (RC.out.below hb)
      clear HC hb
      obtain ⟨kGD0, kGD1, kGDy, kGDz⟩ := cell_of_two GD.out
      obtain ⟨kGA0, kGA1, kGAy, kGAz⟩ := cell_of_two GA.out
      obtain ⟨kGB0, kGB1, kGBy, kGBz⟩ := cell_of_two GB.out
      obtain ⟨kGC0, kGC1, kGCy, kGCz⟩ := cell_of_two GC.out
      have HC := Lib.hid ((HG_c.out _ _ _ RC.out HBb.out))
      go_wp2_with fail
      (with_reducible refine HC.out.mono ?_)
      rintro e wc ⟨rfl, hb⟩
      clear kGD0 kGD1 kGDy kGDz
      clear kGA0 kGA1 kGAy kGAz
      clear kGB0 kGB1 kGBy kGBz
      clear kGC0 kGC1 kGCy kGCz
      have HBc := Lib.hid (HBb.out.trans (hb.mono HBb.out.size))
      replace GD := Lib.hid (blk_below GD.out hb)
      replace RD := Lib.hid (RD.out.below hb)
      replace GA := Lib.hid (blk_below GA.out hb)
      replace RA := Lib.hid (RA.out.below hb)
      replace GB := Lib.hid (blk_below GB.out hb)
      replace RB := Lib.hid (RB.out.below hb)
      replace GC := Lib.hid (blk_below GC.out hb)
      replace RC := Lib.hid (RC.out.below hb)
      clear HC hb
      obtain ⟨kGD0, kGD1, kGDy, kGDz⟩ := cell_of_two GD.out
      obtain ⟨kGA0, kGA1, kGAy, kGAz⟩ := cell_of_two GA.out
      obtain ⟨kGB0, kGB1, kGBy, kGBz⟩ := cell_of_two GB.out
      obtain ⟨kGC0, kGC1, kGCy, kGCz⟩ := cell_of_two GC.out
      have HC := Lib.hid (sameDisk_any al af _ _ wc RB.out RA.out)
      go_wp2_with fail
      (with_reducible refine HC.out.mono ?_)
      rintro e wd_ ⟨rfl, hb⟩
      clear kGD0 kGD1 kGDy kGDz
      clear kGA0 kGA1 kGAy kGAz
      clear kGB0 kGB1 kGBy kGBz
      clear kGC0 kGC1 kGCy kGCz
      have HBd_ := Lib.hid (HBc.out.trans (hb.mono HBc.out.size))
      replace GD := Lib.hid (blk_below GD.out hb)
      replace RD := Lib.hid (RD.out.below hb)
      replace GA := Lib.hid (blk_below GA.out hb)
      replace RA := Lib.hid (RA.out.below hb)
      replace GB := Lib.hid (blk_below GB.out hb)
      replace RB := Lib.hid (RB.out.below hb)
      replace GC := Lib.hid (blk_below GC.out hb)
      replace RC := Lib.hid (RC.out.below hb)
      clear HC hb
      obtain ⟨kGD0, kGD1, kGDy, kGDz⟩ := cell_of_two GD.out
      obtain ⟨kGA0, kGA1, kGAy, kGAz⟩ := cell_of_two GA.out
      obtain ⟨kGB0, kGB1, kGBy, kGBz⟩ := cell_of_two GB.out
      obtain ⟨kGC0, kGC1, kGCy, kGCz⟩ := cell_of_two GC.out
      have HC := Lib.hid (HIDS.out wd_ HBd_.out)
      go_wp2_with fail
      (with_reducible refine HC.out.mono ?_)
      rintro e we ⟨rfl, hb⟩
      clear kGD0 kGD1 kGDy kGDz
      clear kGA0 kGA1 kGAy kGAz
      clear kGB0 kGB1 kGBy kGBz
      clear kGC0 kGC1 kGCy kGCz
      have HBe := Lib.hid (HBd_.out.trans (hb.mono HBd_.out.size))
      replace GD := Lib.hid (blk_below GD.out hb)
      replace RD := Lib.hid (RD.out.below hb)
      replace GA := Lib.hid (blk_below GA.out hb)
      replace RA := Lib.hid (RA.out.below hb)
      replace GB := Lib.hid (blk_below GB.out hb)
      replace RB := Lib.hid (RB.out.below hb)
      replace GC := Lib.hid (blk_below GC.out hb)
      replace RC := Lib.hid (RC.out.below hb)
      clear HC hb
      obtain ⟨kGD0, kGD1, kGDy, kGDz⟩ := cell_of_two GD.out
      obtain ⟨kGA0, kGA1, kGAy, kGAz⟩ := cell_of_two GA.out
      obtain ⟨kGB0, kGB1, kGBy, kGBz⟩ := cell_of_two GB.out
      obtain ⟨kGC0, kGC1, kGCy, kGCz⟩ := cell_of_two GC.out
      by_cases hts : t = s
      · have m1 : (t.toList == s.toList) = true := by rw [hts]; exact beq_yes _
        have m2 : (t.toList != s.toList) = false := by rw [bne, m1]; rfl
        by_cases hew : ew = 0
        · have n1 : (ew == 0) = true := by rw [hew]; rfl
          clear hew hts
          have HC := Lib.hid (stores_any we (HT.out _ HBe.out))
          go_wp2_with fail
          (with_reducible refine HC.out.mono ?_)
          rintro e wes ⟨rfl, hb⟩
          clear kGD0 kGD1 kGDy kGDz
          clear kGA0 kGA1 kGAy kGAz
          clear kGB0 kGB1 kGBy kGBz
          clear kGC0 kGC1 kGCy kGCz
          have HBes := Lib.hid (HBe.out.trans (hb.mono HBe.out.size))
          replace GD := Lib.hid (blk_below GD.out hb)
          replace RD := Lib.hid (RD.out.below hb)
          replace GA := Lib.hid (blk_below GA.out hb)
          replace RA := Lib.hid (RA.out.below hb)
          replace GB := Lib.hid (blk_below GB.out hb)
          replace RB := Lib.hid (RB.out.below hb)
          replace GC := Lib.hid (blk_below GC.out hb)
          replace RC := Lib.hid (RC.out.below hb)
          clear HC hb
          obtain ⟨kGD0, kGD1, kGDy, kGDz⟩ := cell_of_two GD.out
          obtain ⟨kGA0, kGA1, kGAy, kGAz⟩ := cell_of_two GA.out
          obtain ⟨kGB0, kGB1, kGBy, kGBz⟩ := cell_of_two GB.out
          obtain ⟨kGC0, kGC1, kGCy, kGCz⟩ := cell_of_two GC.out
          go_wp2_with fail
          go_ret
          exact ⟨rfl, HBes.out⟩
        · have n1 : (ew == 0) = false := beq_eq_false_iff_ne.2 hew
          obtain ⟨hu, hei⟩ := HLB.out hts hew
          have u1 : (u.toList == s.toList) = true := by rw [hu]; exact beq_yes _
          have u2 : (ei == 0) = true := by rw [hei]; rfl
          clear hew hts hu hei
          have HC := Lib.hid (stores_any we (HT.out _ HBe.out))
          go_wp2_with fail
          (with_reducible refine HC.out.mono ?_)
          rintro e wes ⟨rfl, hb⟩
          clear kGD0 kGD1 kGDy kGDz
          clear kGA0 kGA1 kGAy kGAz
          clear kGB0 kGB1 kGBy kGBz
          clear kGC0 kGC1 kGCy kGCz
          have HBes := Lib.hid (HBe.out.trans (hb.mono HBe.out.size))
          replace GD := Lib.hid (blk_below GD.out hb)
          replace RD := Lib.hid (RD.out.below hb)
          replace GA := Lib.hid (blk_below GA.out hb)
          replace RA := Lib.hid (RA.out.below hb)
          replace GB := Lib.hid (blk_below GB.out hb)
          replace RB := Lib.hid (RB.out.below hb)
          replace GC := Lib.hid (blk_below GC.out hb)
          replace RC := Lib.hid (RC.out.below hb)
          clear HC hb
          obtain ⟨kGD0, kGD1, kGDy, kGDz⟩ := cell_of_two GD.out
          obtain ⟨kGA0, kGA1, kGAy, kGAz⟩ := cell_of_two GA.out
          obtain ⟨kGB0, kGB1, kGBy, kGBz⟩ := cell_of_two GB.out
          obtain ⟨kGC0, kGC1, kGCy, kGCz⟩ := cell_of_two GC.out
          go_wp2_with fail
          go_ret
          exact ⟨rfl, HBes.out⟩
      · have m1 : (t.toList == s.toList) = false := beq_no hts
        have m2 : (t.toList != s.toList) = true := by rw [bne, m1]; rfl
        have n1 : (ew == 0) = true := by rw [HLW.out hts]; rfl
        clear hts
        have HC := Lib.hid (HIDT.out we HBe.out)
        go_wp2_with fail
        (with_reducible refine HC.out.mono ?_)
        rintro e wf ⟨rfl, hb⟩
        clear kGD0 kGD1 kGDy kGDz
        clear kGA0 kGA1 kGAy kGAz
        clear kGB0 kGB1 kGBy kGBz
        clear kGC0 kGC1 kGCy kGCz
        have HBf := Lib.hid (HBe.out.trans (hb.mono HBe.out.size))
        replace GD := Lib.hid (blk_below GD.out hb)
        replace RD := Lib.hid (RD.out.below hb)
        replace GA := Lib.hid (blk_below GA.out hb)
        replace RA := Lib.hid (RA.out.below hb)
        replace GB := Lib.hid (blk_below GB.out hb)
        replace RB := Lib.hid (RB.out.below hb)
        replace GC := Lib.hid (blk_below GC.out hb)
        replace RC := Lib.hid (RC.out.below hb)
        clear HC hb
        obtain ⟨kGD0, kGD1, kGDy, kGDz⟩ := cell_of_two GD.out
        obtain ⟨kGA0, kGA1, kGAy, kGAz⟩ := cell_of_two GA.out
        obtain ⟨kGB0, kGB1, kGBy, kGBz⟩ := cell_of_two GB.out
        obtain ⟨kGC0, kGC1, kGCy, kGCz⟩ := cell_of_two GC.out
        have HC := Lib.hid (HIDS.out wf HBf.out)
        go_wp2_with fail
        (with_reducible refine HC.out.mono ?_)
        rintro e wg ⟨rfl, hb⟩
        clear kGD0 kGD1 kGDy kGDz
        clear kGA0 kGA1 kGAy kGAz
        clear kGB0 kGB1 kGBy kGBz
        clear kGC0 kGC1 kGCy kGCz
        have HBg := Lib.hid (HBf.out.trans (hb.mono HBf.out.size))
        replace GD := Lib.hid (blk_below GD.out hb)
        replace RD := Lib.hid (RD.out.below hb)
        replace GA := Lib.hid (blk_below GA.out hb)
        replace RA := Lib.hid (RA.out.below hb)
        replace GB := Lib.hid (blk_below GB.out hb)
        replace RB := Lib.hid (RB.out.below hb)
        replace GC := Lib.hid (blk_below GC.out hb)
        replace RC := Lib.hid (RC.out.below hb)
        clear HC hb
        obtain ⟨kGD0, kGD1, kGDy, kGDz⟩ := cell_of_two GD.out
        obtain ⟨kGA0, kGA1, kGAy, kGAz⟩ := cell_of_two GA.out
        obtain ⟨kGB0, kGB1, kGBy, kGBz⟩ := cell_of_two GB.out
        obtain ⟨kGC0, kGC1, kGCy, kGCz⟩ := cell_of_two GC.out
        have HC := Lib.hid (stores_any wg (HT.out _ HBg.out))
        go_wp2_with fail
        (with_reducible refine HC.out.mono ?_)
        rintro e wgs ⟨rfl, hb⟩
        clear kGD0 kGD1 kGDy kGDz
        clear kGA0 kGA1 kGAy kGAz
        clear kGB0 kGB1 kGBy kGBz
        clear kGC0 kGC1 kGCy kGCz
        have HBgs := Lib.hid (HBg.out.trans (hb.mono HBg.out.size))
        replace GD := Lib.hid (blk_below GD.out hb)
        replace RD := Lib.hid (RD.out.below hb)
        replace GA := Lib.hid (blk_below GA.out hb)
        replace RA := Lib.hid (RA.out.below hb)
        replace GB := Lib.hid (blk_below GB.out hb)
        replace RB := Lib.hid (RB.out.below hb)
        replace GC := Lib.hid (blk_below GC.out hb)
        replace RC := Lib.hid (RC.out.below hb)
        clear HC hb
        obtain ⟨kGD0, kGD1, kGDy, kGDz⟩ := cell_of_two GD.out
        obtain ⟨kGA0, kGA1, kGAy, kGAz⟩ := cell_of_two GA.out
        obtain ⟨kGB0, kGB1, kGBy, kGBz⟩ := cell_of_two GB.out
        obtain ⟨kGC0, kGC1, kGCy, kGCz⟩ := cell_of_two GC.out
        go_wp2_with fail
        go_ret
        exact ⟨rfl, HBgs.out⟩
  · have n1 : (e0 == 0) = false := beq_eq_false_iff_ne.2 he
    have n2 : (e0 != 0) = true := by rw [bne, n1]; rfl
    have hid := putF_bad (d := ⟨l, f1⟩) (s := s) (by rw [HQ.out]; exact he)
    rw [HQ.out] at hid
    dsimp only at hid
    subst hid
    have hoo : (nilB : ByteArray).toList.isEmpty = true := by rw [ByteArray.toList_eq]; rfl
    clear he
    go_wp2_with (refine wpList_store_blk (by rfl) 38 (.tmp 9) (.tmp 31) rfl w1.heap.size #[.slice a1 al.length c1, .int .i64 af] rfl rfl (old := _) (heap_alloc_new _ _) (by kernel_rfl) rfl (by simp [Value.oneCell']) ?_; intro w2 gz uz; clear kGD0 kGD1 kGDy kGDz; have hb := below_upd ((Below.refl w1.heap.size w1).alloc (Nat.le_refl _) _) uz (Nat.le_refl _) (by simp); have HB2 := Lib.hid (HB1.out.trans (hb.mono HB1.out.size)); replace GD := Lib.hid (blk_below GD.out hb); replace RD := Lib.hid (RD.out.below hb); replace RA := Lib.hid (RA.out.below hb); have GA := Lib.hid gz; clear gz uz hb; obtain ⟨kGD0, kGD1, kGDy, kGDz⟩ := cell_of_two GD.out; obtain ⟨kGA0, kGA1, kGAy, kGAz⟩ := cell_of_two GA.out)
    have HC := Lib.hid (stores_any w2 (HT.out _ HB2.out))
    (with_reducible refine HC.out.mono ?_)
    rintro e w3 ⟨rfl, hb⟩
    clear kGD0 kGD1 kGDy kGDz
    clear kGA0 kGA1 kGAy kGAz
    have HB3 := Lib.hid (HB2.out.trans (hb.mono HB2.out.size))
    replace GD := Lib.hid (blk_below GD.out hb)
    replace RD := Lib.hid (RD.out.below hb)
    replace GA := Lib.hid (blk_below GA.out hb)
    replace RA := Lib.hid (RA.out.below hb)
    clear HC hb
    obtain ⟨kGD0, kGD1, kGDy, kGDz⟩ := cell_of_two GD.out
    obtain ⟨kGA0, kGA1, kGAy, kGAz⟩ := cell_of_two GA.out
    go_wp2_with fail
    go_ret
    exact ⟨rfl, HB3.out⟩
end Go.Proofs.YtalkheljejkpiaaDoor
