/- The walk of StoreSwept. -/
import Derived.Test.YtalkheljejkpiaaDoorSweptLaw
import Derived.Test.YtalkheljejkpiaaDoorStore2
import Derived.Test.YtalkheljejkpiaaDoorRegion3
import Derived.Test.YtalkheljejkpiaaDoorPick
import Derived.Test.YtalkheljejkpiaaDoorPackLaw2
import Derived.Test.YtalkheljejkpiaaDoorDisk11
import Derived.Deep.CutBlock
import Derived.OpenShut
import Derived.Deep.DeepCutAuto
namespace Go.Proofs.YtalkheljejkpiaaDoor
open Go.RowKit
set_option linter.unusedVariables false
set_option linter.unusedSimpArgs false

theorem wf_i64 {n : Int} (h : (Lit.int .i64 n).wf = true) : -9223372036854775808 ≤ n ∧ n ≤ 9223372036854775807 := by
  have := bounds_i64 h
  omega
theorem pick30 (k : Int) (w : World) (hk : -9223372036854775808 ≤ k ∧ k ≤ 9223372036854775807) : Calls Tryd.prog 16 #[.int .i64 k, .int .i64 30] w fun e w' => e = .returned (.int .i64 (k % 30)) ∧ w = w' := pickD_any k 30 w hk.1 hk.2 (by decide) (by decide)
set_option maxRecDepth 100000 in
set_option maxHeartbeats 3200000 in
theorem storeSwept_walk {w : World} (ht : Tab w) (v0 : Value) (len0 : Nat) (z0 : List ByteArray) (f0 : rdRow w 1 v0 len0 (z0.map .string)) (g0 : ∀ s ∈ z0, s.size ≤ 140737488351232) (m0 : len0 * 16 ≤ 140737488351232)
    (v1 : Value) (len1 : Nat) (z1 : List Int) (f1 : rdRow w 1 v1 len1 (z1.map (.int .i64))) (g1 : ∀ n ∈ z1, (Lit.int .i64 n).wf = true) (m1 : len1 * 8 ≤ 140737488351232) (fuse : Int) (f2 : -9223372036854775808 ≤ fuse ∧ fuse ≤ 9223372036854775807) :
    Calls Tryd.prog 9 #[v0, v1, .int .i64 fuse] w fun e w' => e = .returned (.bool true) ∧ Below w.heap.size w w' := by
  obtain ⟨hr0, hs0, hm0⟩ := rdS_in f0 g0 m0
  obtain rfl : z1.length = len1 := by simpa using f1.1
  have hr1 : rdI w v1 z1 := f1
  have HT := Lib.hid (fun wr (h : Below w.heap.size w wr) => ht.below h)
  have HZ := Lib.hid (fun wr (h : Below w.heap.size w wr) => hr0.below h)
  have HZ1 := Lib.hid (fun wr (h : Below w.heap.size w wr) => hr1.below h)
  have HSZ := Lib.hid hs0
  have HZW := Lib.hid (fun n hn => wf_i64 (g1 n hn))
  have HFU := Lib.hid f2
  have HLN := Lib.hid (rdS_len hr0)
  have HLN1 := Lib.hid (rdI_len hr1)
  obtain ⟨a0, c0_, rfl⟩ := rd_form hr0
  obtain ⟨b0, d0_, rfl⟩ := rd_form hr1
  clear f0 g0 m0 hr0 hs0 hm0 f1 g1 m1 hr1 f2 ht
  go_enter Tryd.func9, Tryd.ntmps9
  go_upto_block 0 with (refine wpList_store_blk (by rfl) 38 (.tmp 7) (.tmp 27) rfl w.heap.size #[.slice none 0 0, .int .i64 (-1)] rfl rfl (old := _) (heap_alloc_new _ _) (by kernel_rfl) rfl (by simp [Value.oneCell']) ?_; intro w2 gz uz; have HB0 := Lib.hid (below_upd ((Below.refl w.heap.size w).alloc (Nat.le_refl _) _) uz (Nat.le_refl _) (by simp)); have GD0 := Lib.hid gz; clear gz uz)
  go_cut [8] (fun s8 wc => ∃ (k : Nat) (dl : List Fil) (a1 : Option Addr) (c1 : Nat) (ids : List ByteArray), k ≤ 40 ∧ Hid (putsF (z0.take k) = (⟨dl, -1⟩, ids)) ∧ Hid (wc.heap[w.heap.size]? = some (.cells #[.slice a1 dl.length c1, .int .i64 (-1)] 38 (0, 0))) ∧ Hid (wc.ownsRow w.heap.size 92 3 (.slice a1 dl.length c1) dl.length (fvs dl)) ∧ Hid (wc.ownsRow (w.heap.size + 1) 9 1 s8 ids.length (svs ids)) ∧ Hid (ids.length ≤ k) ∧ Hid (Below w.heap.size w wc))
  case first =>
    go_wp2_with fail
    go_loopw [8, 10] (fun vq i wr => ∃ (k : Nat) (dl : List Fil) (a1 : Option Addr) (c1 : Nat) (ids : List ByteArray), k ≤ z0.length ∧ k ≤ 40 ∧ i = .int .i64 (k : Int) ∧ Hid (putsF (z0.take k) = (⟨dl, -1⟩, ids)) ∧ Hid (wr.heap[w.heap.size]? = some (.cells #[.slice a1 dl.length c1, .int .i64 (-1)] 38 (0, 0))) ∧ Hid (wr.ownsRow w.heap.size 92 3 (.slice a1 dl.length c1) dl.length (fvs dl)) ∧ Hid (wr.ownsRow (w.heap.size + 1) 9 1 vq ids.length (svs ids)) ∧ Hid (Below w.heap.size w wr)) (fun _ i _ => 40 - (intOf i).toNat)
    case atStart => exact ⟨0, [], none, 0, [], Nat.zero_le _, Nat.zero_le _, rfl, Lib.hid putsF_nil, GD0, Lib.hid (World.ownsRow_nil _ _ _ _), Lib.hid (World.ownsRow_nil _ _ _ _), HB0⟩
    case round =>
      clear GD0 HB0
      obtain ⟨k, dl, a1, c1, ids, hk, hk4, rfl, HPF, GD, OD, OQ, HB⟩ := hrel
      have hidl := puts_len (z0.take k)
      rw [HPF.out, List.length_take] at hidl
      have HIL := Lib.hid (show ids.length ≤ k from Nat.le_trans hidl (Nat.min_le_left _ _))
      clear hidl
      by_cases hk2 : k < z0.length ∧ k < 40
      · have HKL := Lib.hid hk2
        have kb : decide ((k : Int) < (z0.length : Int)) = true := decide_eq_true (by omega)
        have kb2 : decide ((k : Int) < 40) = true := decide_eq_true (by omega)
        have ki : (k : Int) < (z0.length : Int) := by omega
        have kn : k < z0.length := by omega
        have kz : (0 : Int) ≤ (k : Int) := by omega
        obtain ⟨bl, ol, hbl, _, hcl⟩ := rdS_at' (HZ.out _ HB.out) (by omega)
        subst hbl
        obtain ⟨x, hx⟩ : ∃ x, x = z0.getD k noB := ⟨_, rfl⟩
        have HXC := Lib.hid (fun wr (h : Below w.heap.size w wr) => ((rdS_cl (HZ.out wr h) kn).trans (by rw [← hx]) : wr.cell? ⟨bl, ol + k, none⟩ = some (.string x)))
        have hxm : x.size ≤ 9223372036854775807 := by rw [hx]; exact Nat.le_trans (smalls_at HSZ.out k) (by decide)
        have hput := fun wr (h : Below w.heap.size w wr) (hr : rdF wr (.slice a1 dl.length c1) dl) => sput_anyN dl (-1) (by decide) _ wr hr x hxm (HT.out wr h)
        have hfz := (put_fz ⟨dl, -1⟩ x).low (by show (-1 : Int) < 0; decide)
        obtain ⟨⟨⟨fl, af⟩, id, er⟩, hq⟩ : ∃ q, q = putF ⟨dl, -1⟩ x := ⟨_, rfl⟩
        rw [← hq] at hput hfz
        obtain rfl : af = -1 := hfz
        have HQ := Lib.hid hq.symm
        have HP := Lib.hid hput
        have HSN := Lib.hid (show putsF (z0.take (k + 1)) = puts1 (⟨dl, -1⟩, ids) x by rw [← take_snocD kn, putsF_snoc, HPF.out, ← hx])
        clear hput hq hcl hx hxm hk2
        have hb := (Below.refl wr.heap.size wr).drew
        replace GD := Lib.hid (blk_below GD.out hb)
        replace OD := Lib.hid (owns_below OD.out hb)
        replace OQ := Lib.hid (owns_below OQ.out hb)
        replace HB := Lib.hid (HB.out.trans (hb.mono HB.out.size))
        clear hb
        go_wp2_with fail
        obtain ⟨wd, hwd⟩ : ∃ x, wr.drew = x := ⟨_, rfl⟩
        rw [hwd] at HB GD OD OQ
        refine Twin.wp_region_order (.q 0 (.q 1 (.q 2 (.q 3 (.q 4 (.l2 5 10 (.q 6 (.q 7 (.q 8 (.q 9 (.l 10 (.l 11 (.q 12 (.q 13 (.nil))))))))) (.l 5 (.q 6 (.q 7 (.q 8 (.q 9 (.l 11 (.q 12 (.q 13 (.nil))))))))))))))) (fun w' => w'.cell? ⟨w.heap.size, 0, none⟩ = some (.slice a1 dl.length c1) ∧ w'.cell? ⟨w.heap.size, 1, none⟩ = some (.int .i64 (-1)) ∧ w'.cell? ⟨bl, ol + k, none⟩ = some (.string x)) (by kernel_rfl) (by kernel_rfl) rfl (by kernel_rfl) (by intro _ _ d _ _ h; cases d <;> exact h) (hwd ▸ (let h := cell_of_two GD.out; ⟨h.1, h.2.1, HXC.out _ HB.out⟩)) ?_; simp only [Twin.Ord.opers, List.getElem?_toArray, List.getElem?_cons_zero, List.getElem?_cons_succ, Option.getD_some]
        rw [hwd]
        clear hwd
        repeat (first | (refine Twin.ro_q (by rfl) (v := ?_) ?_ ?_; rotate_left; (focus (intro w' hSw; (try dsimp only at hSw); go_simp; try with_reducible rfl)); simp only [Act.put, List.setIfInBounds_toArray, List.set_cons_zero, List.set_cons_succ]) | (refine Twin.ro_skip (by rfl) ?_; simp only [Act.put, List.setIfInBounds_toArray, List.set_cons_zero, List.set_cons_succ]))
        refine Twin.ro_two ?_ ?_
        · (refine Twin.ro_loud (by rfl) (fun K hK => ?_); go_simp)
          (with_reducible refine (HP.out wd HB.out (rdF_owns OD.out)).mono ?_)
          rintro e w5 ⟨v2, rfl, hrd, hb, hnw⟩
          obtain ⟨a2, c2, rfl⟩ := rd_form hrd
          have ON := Lib.hid ((hnw.mono HB.out.size).owned (owns_below OD.out hb) (Nat.le_refl _))
          replace HB := Lib.hid (HB.out.trans (hb.mono HB.out.size))
          replace GD := Lib.hid (blk_below GD.out hb)
          replace OD := Lib.hid (owns_below OD.out hb)
          replace OQ := Lib.hid (owns_below OQ.out hb)
          clear hb hrd hnw HP
          (refine hK.out _ _ (fun w' => w'.cell? ⟨w.heap.size, 0, none⟩ = some (.slice a1 dl.length c1) ∧ w'.cell? ⟨w.heap.size, 1, none⟩ = some (.int .i64 (-1)) ∧ w'.cell? ⟨bl, ol + k, none⟩ = some (.string x)) (.inl fun _ h => h) ((let h := cell_of_two GD.out; ⟨h.1, h.2.1, HXC.out _ HB.out⟩)) ?_; clear hK K; try simp only [Act.put, List.setIfInBounds_toArray, List.set_cons_zero, List.set_cons_succ])
          try repeat (first | (refine Twin.ro_q (by rfl) (v := ?_) ?_ ?_; rotate_left; (focus (intro w' hSw; (try dsimp only at hSw); go_simp; try with_reducible rfl)); simp only [Act.put, List.setIfInBounds_toArray, List.set_cons_zero, List.set_cons_succ]) | (refine Twin.ro_skip (by rfl) ?_; simp only [Act.put, List.setIfInBounds_toArray, List.set_cons_zero, List.set_cons_succ]))
          (refine Twin.ro_loud (by rfl) (fun K hK => ?_); go_simp)
          have hb := (Below.refl w5.heap.size w5).alloc (Nat.le_refl _) (.cells #[.slice none 0 0, .int .i64 0] 38)
          have hgN := heap_alloc_new w5 (.cells #[.slice none 0 0, .int .i64 0] 38)
          obtain ⟨w6, hw6⟩ : ∃ x, w5.alloc (.cells #[.slice none 0 0, .int .i64 0] 38) = x := ⟨_, rfl⟩
          obtain ⟨nb, hnb⟩ : ∃ x, x = w5.heap.size := ⟨_, rfl⟩
          have HNB := Lib.hid (show w.heap.size < nb by rw [hnb]; exact lt_of_block GD.out)
          rw [hw6] at hb hgN
          rw [← hnb] at hgN
          have GN := Lib.hid hgN
          replace GD := Lib.hid (blk_below GD.out hb)
          replace OD := Lib.hid (owns_below OD.out hb)
          replace OQ := Lib.hid (owns_below OQ.out hb)
          replace ON := Lib.hid (owns_below ON.out hb)
          replace HB := Lib.hid (HB.out.trans (hb.mono HB.out.size))
          clear hb hgN
          (refine hK.out _ _ (fun w' => w'.cell? ⟨w.heap.size, 0, none⟩ = some (.slice a1 dl.length c1) ∧ w'.cell? ⟨w.heap.size, 1, none⟩ = some (.int .i64 (-1)) ∧ w'.cell? ⟨bl, ol + k, none⟩ = some (.string x)) (.inl fun _ h => h) (hw6 ▸ (let h := cell_of_two GD.out; ⟨h.1, h.2.1, HXC.out _ HB.out⟩)) ?_; clear hK K; try simp only [Act.put, List.setIfInBounds_toArray, List.set_cons_zero, List.set_cons_succ])
          rw [hw6]
          try rw [← hnb]
          clear hw6 hnb
          try (repeat (first | (refine Twin.ro_q (by rfl) (v := ?_) ?_ ?_; rotate_left; (focus (intro w' hSw; (try dsimp only at hSw); go_simp; try with_reducible rfl)); simp only [Act.put, List.setIfInBounds_toArray, List.set_cons_zero, List.set_cons_succ]) | (refine Twin.ro_skip (by rfl) ?_; simp only [Act.put, List.setIfInBounds_toArray, List.set_cons_zero, List.set_cons_succ])))
          (refine Twin.ro_loud (by rfl) (fun K hK => ?_))
          refine wp_store_blkS 38 (.tmp 11) (.tmp 45) rfl nb #[.slice a2 fl.length c2, .int .i64 (-1)] rfl rfl (old := _) GN.out (by kernel_rfl) rfl (by simp [Value.oneCell']) ?_
          intro w9 gz uz
          replace OD := Lib.hid (own_storeK OD.out uz GN.out (by decide))
          replace ON := Lib.hid (own_storeK ON.out uz GN.out (by decide))
          replace OQ := Lib.hid (own_storeK OQ.out uz GN.out (by decide))
          replace HB := Lib.hid (below_upd HB.out uz (Nat.le_of_lt HNB.out) HB.out.size)
          replace GD := Lib.hid (blk_upd GD.out uz (Nat.ne_of_lt HNB.out))
          replace GN := Lib.hid gz
          clear gz uz
          (refine hK.out _ _ (fun w' => w'.cell? ⟨w.heap.size, 0, none⟩ = some (.slice a1 dl.length c1) ∧ w'.cell? ⟨w.heap.size, 1, none⟩ = some (.int .i64 (-1)) ∧ w'.cell? ⟨bl, ol + k, none⟩ = some (.string x)) (.inl fun _ h => h) ((let h := cell_of_two GD.out; ⟨h.1, h.2.1, HXC.out _ HB.out⟩)) ?_; clear hK K; try simp only [Act.put, List.setIfInBounds_toArray, List.set_cons_zero, List.set_cons_succ])
          try repeat (first | (refine Twin.ro_q (by rfl) (v := ?_) ?_ ?_; rotate_left; (focus (intro w' hSw; (try dsimp only at hSw); go_simp; try with_reducible rfl)); simp only [Act.put, List.setIfInBounds_toArray, List.set_cons_zero, List.set_cons_succ]) | (refine Twin.ro_skip (by rfl) ?_; simp only [Act.put, List.setIfInBounds_toArray, List.set_cons_zero, List.set_cons_succ]))
          refine Twin.ro_nil ?_
          obtain ⟨n0, n1, _, _⟩ := cell_of_two GN.out
          by_cases he : er = 0
          · subst he
            have HS2 := Lib.hid (show putsF (z0.take (k + 1)) = (⟨fl, -1⟩, ids ++ [id]) from HSN.out.trans (puts1_ok HQ.out))
            clear HSN
            have hb := (Below.refl w9.heap.size w9).drew
            replace GD := Lib.hid (blk_below GD.out hb)
            replace ON := Lib.hid (owns_below ON.out hb)
            replace OQ := Lib.hid (owns_below OQ.out hb)
            replace GN := Lib.hid (blk_below GN.out hb)
            replace HB := Lib.hid (HB.out.trans (hb.mono HB.out.size))
            clear hb n0 n1
            go_wp2_with fail
            obtain ⟨we, hwe⟩ : ∃ x, w9.drew = x := ⟨_, rfl⟩
            rw [hwe] at HB GD ON OQ GN
            obtain ⟨n0, n1, _, _⟩ := cell_of_two GN.out
            refine Sole.wp_region_order [(0, false), (1, false), (2, false), (3, true), (4, true), (5, true), (6, false)] (fun w' => w'.cell? ⟨nb, 0, none⟩ = some (.slice a2 fl.length c2) ∧ w'.cell? ⟨nb, 1, none⟩ = some (.int .i64 (-1))) (by kernel_rfl) (by kernel_rfl) rfl (by kernel_rfl) (by intro _ _ d _ _ h; cases d <;> exact h) (hwe ▸ ⟨n0, n1⟩) ?_; simp only [List.map_cons, List.map_nil, List.getElem?_toArray, List.getElem?_cons_zero, List.getElem?_cons_succ, Option.getD_some]
            rw [hwe]
            clear hwe
            repeat (first | (refine Sole.ro_q (by rfl) (v := ?_) ?_ ?_; rotate_left; (focus (intro w' hSw; (try dsimp only at hSw); go_simp; try with_reducible rfl)); simp only [Act.put, List.setIfInBounds_toArray, List.set_cons_zero, List.set_cons_succ]) | (refine Sole.ro_skip (by rfl) ?_; simp only [Act.put, List.setIfInBounds_toArray, List.set_cons_zero, List.set_cons_succ]))
            (refine Sole.ro_loud (by rfl) (fun K hK => ?_); go_simp)
            have hba := (Below.refl we.heap.size we).alloc (Nat.le_refl _) (.cells #[.string id] 9)
            have hca := cell_of_two (blk_below GN.out hba)
            (refine hK.out _ _ (fun w' => w'.cell? ⟨nb, 0, none⟩ = some (.slice a2 fl.length c2) ∧ w'.cell? ⟨nb, 1, none⟩ = some (.int .i64 (-1))) (.inl fun _ h => h) (⟨hca.1, hca.2.1⟩) ?_; clear hK K; try simp only [Act.put, List.setIfInBounds_toArray, List.set_cons_zero, List.set_cons_succ])
            try repeat (first | (refine Sole.ro_q (by rfl) (v := ?_) ?_ ?_; rotate_left; (focus (intro w' hSw; (try dsimp only at hSw); go_simp; try with_reducible rfl)); simp only [Act.put, List.setIfInBounds_toArray, List.set_cons_zero, List.set_cons_succ]) | (refine Sole.ro_skip (by rfl) ?_; simp only [Act.put, List.setIfInBounds_toArray, List.set_cons_zero, List.set_cons_succ]))
            clear hba hca
            (refine Sole.ro_loud (by rfl) (fun K hK => ?_))
            refine wp_append1u (.tmp 51) (.tmp 53) 22 rfl info_string Tryd.underlying22 rfl (by decide) OQ.out (show w.heap.size + 1 ≤ we.heap.size from Nat.succ_le_of_lt (lt_of_block GD.out)) rfl (by have := HIL.out; have := HKL.out; show (ids.length + 1) * 16 ≤ _; omega) rfl rfl ?_
            intro v7 w7 ho7 hu7
            have OQ7 := Lib.hid (show w7.ownsRow (w.heap.size + 1) 9 1 v7 (ids ++ [id]).length (svs (ids ++ [id])) by rw [svs_appendP, List.length_append]; exact ho7)
            have GD7 := Lib.hid (blk_upd GD.out hu7 (fun e => owns_ne OQ.out GD.out (by decide) e))
            have GN7 := Lib.hid (blk_upd GN.out hu7 (fun e => owns_ne OQ.out GN.out (by decide) e))
            have ON7 := Lib.hid (owns_apart ON.out OQ.out hu7 (by decide))
            have HB7 := Lib.hid (HB.out.trans (hu7.below HB.out.size (fun k hk => Nat.le_of_succ_le (OQ.out.lt k hk).1)))
            clear ho7 hu7 n0 n1 GD GN ON OQ HB OD
            obtain ⟨n0, n1, _, _⟩ := cell_of_two GN7.out
            (refine hK.out _ _ (fun w' => w'.cell? ⟨nb, 0, none⟩ = some (.slice a2 fl.length c2) ∧ w'.cell? ⟨nb, 1, none⟩ = some (.int .i64 (-1))) (.inl fun _ h => h) (⟨n0, n1⟩) ?_; clear hK K; try simp only [Act.put, List.setIfInBounds_toArray, List.set_cons_zero, List.set_cons_succ])
            try repeat (first | (refine Sole.ro_q (by rfl) (v := ?_) ?_ ?_; rotate_left; (focus (intro w' hSw; (try dsimp only at hSw); go_simp; try with_reducible rfl)); simp only [Act.put, List.setIfInBounds_toArray, List.set_cons_zero, List.set_cons_succ]) | (refine Sole.ro_skip (by rfl) ?_; simp only [Act.put, List.setIfInBounds_toArray, List.set_cons_zero, List.set_cons_succ]))
            (refine Sole.ro_loud (by rfl) (fun K hK => ?_))
            refine wp_store_blkS 38 (.tmp 7) (.tmp 50) rfl w.heap.size #[.slice a2 fl.length c2, .int .i64 (-1)] rfl rfl (old := _) GD7.out (by kernel_rfl) rfl (by simp [Value.oneCell']) ?_
            intro w8 gz uz
            have GD8 := Lib.hid gz
            have ON8 := Lib.hid (own_storeK ON7.out uz GD7.out (by decide))
            have OQ8 := Lib.hid (own_storeK OQ7.out uz GD7.out (by decide))
            have HB8 := Lib.hid (below_upd HB7.out uz (Nat.le_refl _) HB7.out.size)
            have GN8 := Lib.hid (blk_upd GN7.out uz (Nat.ne_of_gt HNB.out))
            clear gz uz n0 n1 GN7 GD7 ON7 OQ7 HB7
            obtain ⟨n0, n1, _, _⟩ := cell_of_two GN8.out
            (refine hK.out _ _ (fun w' => w'.cell? ⟨nb, 0, none⟩ = some (.slice a2 fl.length c2) ∧ w'.cell? ⟨nb, 1, none⟩ = some (.int .i64 (-1))) (.inl fun _ h => h) (⟨n0, n1⟩) ?_; clear hK K; try simp only [Act.put, List.setIfInBounds_toArray, List.set_cons_zero, List.set_cons_succ])
            repeat (first | (refine Sole.ro_q (by rfl) (v := ?_) ?_ ?_; rotate_left; (focus (intro w' hSw; (try dsimp only at hSw); go_simp; try with_reducible rfl)); simp only [Act.put, List.setIfInBounds_toArray, List.set_cons_zero, List.set_cons_succ]) | (refine Sole.ro_skip (by rfl) ?_; simp only [Act.put, List.setIfInBounds_toArray, List.set_cons_zero, List.set_cons_succ]))
            refine Sole.ro_nil ?_
            go_wp2_with fail
            exact ⟨⟨k + 1, fl, a2, c2, ids ++ [id], by have := HKL.out; omega, by have := HKL.out; omega, rfl, HS2, GD8, ON8, OQ8, HB8⟩, meas_step (n := 40) _ rfl HKL.out.2⟩
          · have n1 : (er == 0) = false := beq_eq_false_iff_ne.2 he
            have n2 : (er != 0) = true := by rw [bne, n1]; rfl
            have HS2 := Lib.hid (show putsF (z0.take (k + 1)) = (⟨dl, -1⟩, ids) from HSN.out.trans (puts1_no (by rw [HQ.out]; exact he)))
            clear he HSN n0 n1
            go_wp2_with fail
            exact ⟨⟨k + 1, dl, a1, c1, ids, by have := HKL.out; omega, by have := HKL.out; omega, rfl, HS2, GD, OD, OQ, HB⟩, meas_step (n := 40) _ rfl HKL.out.2⟩
        · (refine Twin.ro_loud (by rfl) (fun K hK => ?_); go_simp)
          have hb := (Below.refl wd.heap.size wd).alloc (Nat.le_refl _) (.cells #[.slice none 0 0, .int .i64 0] 38)
          have hgN := heap_alloc_new wd (.cells #[.slice none 0 0, .int .i64 0] 38)
          obtain ⟨w6, hw6⟩ : ∃ x, wd.alloc (.cells #[.slice none 0 0, .int .i64 0] 38) = x := ⟨_, rfl⟩
          obtain ⟨nb, hnb⟩ : ∃ x, x = wd.heap.size := ⟨_, rfl⟩
          have HNB := Lib.hid (show w.heap.size < nb by rw [hnb]; exact lt_of_block GD.out)
          rw [hw6] at hb hgN
          rw [← hnb] at hgN
          have GN := Lib.hid hgN
          replace GD := Lib.hid (blk_below GD.out hb)
          replace OD := Lib.hid (owns_below OD.out hb)
          replace OQ := Lib.hid (owns_below OQ.out hb)
          replace HB := Lib.hid (HB.out.trans (hb.mono HB.out.size))
          clear hb hgN
          (refine hK.out _ _ (fun w' => w'.cell? ⟨w.heap.size, 0, none⟩ = some (.slice a1 dl.length c1) ∧ w'.cell? ⟨w.heap.size, 1, none⟩ = some (.int .i64 (-1)) ∧ w'.cell? ⟨bl, ol + k, none⟩ = some (.string x)) (.inl fun _ h => h) (hw6 ▸ (let h := cell_of_two GD.out; ⟨h.1, h.2.1, HXC.out _ HB.out⟩)) ?_; clear hK K; try simp only [Act.put, List.setIfInBounds_toArray, List.set_cons_zero, List.set_cons_succ])
          rw [hw6]
          try rw [← hnb]
          clear hw6 hnb
          try (repeat (first | (refine Twin.ro_q (by rfl) (v := ?_) ?_ ?_; rotate_left; (focus (intro w' hSw; (try dsimp only at hSw); go_simp; try with_reducible rfl)); simp only [Act.put, List.setIfInBounds_toArray, List.set_cons_zero, List.set_cons_succ]) | (refine Twin.ro_skip (by rfl) ?_; simp only [Act.put, List.setIfInBounds_toArray, List.set_cons_zero, List.set_cons_succ])))
          (refine Twin.ro_loud (by rfl) (fun K hK => ?_); go_simp)
          (with_reducible refine (HP.out w6 HB.out (rdF_owns OD.out)).mono ?_)
          rintro e w5 ⟨v2, rfl, hrd, hb, hnw⟩
          obtain ⟨a2, c2, rfl⟩ := rd_form hrd
          have ON := Lib.hid ((hnw.mono HB.out.size).owned (owns_below OD.out hb) (Nat.le_refl _))
          replace HB := Lib.hid (HB.out.trans (hb.mono HB.out.size))
          replace GD := Lib.hid (blk_below GD.out hb)
          replace OD := Lib.hid (owns_below OD.out hb)
          replace OQ := Lib.hid (owns_below OQ.out hb)
          replace GN := Lib.hid (blk_below GN.out hb)
          clear hb hrd hnw HP
          (refine hK.out _ _ (fun w' => w'.cell? ⟨w.heap.size, 0, none⟩ = some (.slice a1 dl.length c1) ∧ w'.cell? ⟨w.heap.size, 1, none⟩ = some (.int .i64 (-1)) ∧ w'.cell? ⟨bl, ol + k, none⟩ = some (.string x)) (.inl fun _ h => h) ((let h := cell_of_two GD.out; ⟨h.1, h.2.1, HXC.out _ HB.out⟩)) ?_; clear hK K; try simp only [Act.put, List.setIfInBounds_toArray, List.set_cons_zero, List.set_cons_succ])
          try repeat (first | (refine Twin.ro_q (by rfl) (v := ?_) ?_ ?_; rotate_left; (focus (intro w' hSw; (try dsimp only at hSw); go_simp; try with_reducible rfl)); simp only [Act.put, List.setIfInBounds_toArray, List.set_cons_zero, List.set_cons_succ]) | (refine Twin.ro_skip (by rfl) ?_; simp only [Act.put, List.setIfInBounds_toArray, List.set_cons_zero, List.set_cons_succ]))
          (refine Twin.ro_loud (by rfl) (fun K hK => ?_))
          refine wp_store_blkS 38 (.tmp 11) (.tmp 45) rfl nb #[.slice a2 fl.length c2, .int .i64 (-1)] rfl rfl (old := _) GN.out (by kernel_rfl) rfl (by simp [Value.oneCell']) ?_
          intro w9 gz uz
          replace OD := Lib.hid (own_storeK OD.out uz GN.out (by decide))
          replace ON := Lib.hid (own_storeK ON.out uz GN.out (by decide))
          replace OQ := Lib.hid (own_storeK OQ.out uz GN.out (by decide))
          replace HB := Lib.hid (below_upd HB.out uz (Nat.le_of_lt HNB.out) HB.out.size)
          replace GD := Lib.hid (blk_upd GD.out uz (Nat.ne_of_lt HNB.out))
          replace GN := Lib.hid gz
          clear gz uz
          (refine hK.out _ _ (fun w' => w'.cell? ⟨w.heap.size, 0, none⟩ = some (.slice a1 dl.length c1) ∧ w'.cell? ⟨w.heap.size, 1, none⟩ = some (.int .i64 (-1)) ∧ w'.cell? ⟨bl, ol + k, none⟩ = some (.string x)) (.inl fun _ h => h) ((let h := cell_of_two GD.out; ⟨h.1, h.2.1, HXC.out _ HB.out⟩)) ?_; clear hK K; try simp only [Act.put, List.setIfInBounds_toArray, List.set_cons_zero, List.set_cons_succ])
          try repeat (first | (refine Twin.ro_q (by rfl) (v := ?_) ?_ ?_; rotate_left; (focus (intro w' hSw; (try dsimp only at hSw); go_simp; try with_reducible rfl)); simp only [Act.put, List.setIfInBounds_toArray, List.set_cons_zero, List.set_cons_succ]) | (refine Twin.ro_skip (by rfl) ?_; simp only [Act.put, List.setIfInBounds_toArray, List.set_cons_zero, List.set_cons_succ]))
          refine Twin.ro_nil ?_
          obtain ⟨n0, n1, _, _⟩ := cell_of_two GN.out
          by_cases he : er = 0
          · subst he
            have HS2 := Lib.hid (show putsF (z0.take (k + 1)) = (⟨fl, -1⟩, ids ++ [id]) from HSN.out.trans (puts1_ok HQ.out))
            clear HSN
            have hb := (Below.refl w9.heap.size w9).drew
            replace GD := Lib.hid (blk_below GD.out hb)
            replace ON := Lib.hid (owns_below ON.out hb)
            replace OQ := Lib.hid (owns_below OQ.out hb)
            replace GN := Lib.hid (blk_below GN.out hb)
            replace HB := Lib.hid (HB.out.trans (hb.mono HB.out.size))
            clear hb n0 n1
            go_wp2_with fail
            obtain ⟨we, hwe⟩ : ∃ x, w9.drew = x := ⟨_, rfl⟩
            rw [hwe] at HB GD ON OQ GN
            obtain ⟨n0, n1, _, _⟩ := cell_of_two GN.out
            refine Sole.wp_region_order [(0, false), (1, false), (2, false), (3, true), (4, true), (5, true), (6, false)] (fun w' => w'.cell? ⟨nb, 0, none⟩ = some (.slice a2 fl.length c2) ∧ w'.cell? ⟨nb, 1, none⟩ = some (.int .i64 (-1))) (by kernel_rfl) (by kernel_rfl) rfl (by kernel_rfl) (by intro _ _ d _ _ h; cases d <;> exact h) (hwe ▸ ⟨n0, n1⟩) ?_; simp only [List.map_cons, List.map_nil, List.getElem?_toArray, List.getElem?_cons_zero, List.getElem?_cons_succ, Option.getD_some]
            rw [hwe]
            clear hwe
            repeat (first | (refine Sole.ro_q (by rfl) (v := ?_) ?_ ?_; rotate_left; (focus (intro w' hSw; (try dsimp only at hSw); go_simp; try with_reducible rfl)); simp only [Act.put, List.setIfInBounds_toArray, List.set_cons_zero, List.set_cons_succ]) | (refine Sole.ro_skip (by rfl) ?_; simp only [Act.put, List.setIfInBounds_toArray, List.set_cons_zero, List.set_cons_succ]))
            (refine Sole.ro_loud (by rfl) (fun K hK => ?_); go_simp)
            have hba := (Below.refl we.heap.size we).alloc (Nat.le_refl _) (.cells #[.string id] 9)
            have hca := cell_of_two (blk_below GN.out hba)
            (refine hK.out _ _ (fun w' => w'.cell? ⟨nb, 0, none⟩ = some (.slice a2 fl.length c2) ∧ w'.cell? ⟨nb, 1, none⟩ = some (.int .i64 (-1))) (.inl fun _ h => h) (⟨hca.1, hca.2.1⟩) ?_; clear hK K; try simp only [Act.put, List.setIfInBounds_toArray, List.set_cons_zero, List.set_cons_succ])
            try repeat (first | (refine Sole.ro_q (by rfl) (v := ?_) ?_ ?_; rotate_left; (focus (intro w' hSw; (try dsimp only at hSw); go_simp; try with_reducible rfl)); simp only [Act.put, List.setIfInBounds_toArray, List.set_cons_zero, List.set_cons_succ]) | (refine Sole.ro_skip (by rfl) ?_; simp only [Act.put, List.setIfInBounds_toArray, List.set_cons_zero, List.set_cons_succ]))
            clear hba hca
            (refine Sole.ro_loud (by rfl) (fun K hK => ?_))
            refine wp_append1u (.tmp 51) (.tmp 53) 22 rfl info_string Tryd.underlying22 rfl (by decide) OQ.out (show w.heap.size + 1 ≤ we.heap.size from Nat.succ_le_of_lt (lt_of_block GD.out)) rfl (by have := HIL.out; have := HKL.out; show (ids.length + 1) * 16 ≤ _; omega) rfl rfl ?_
            intro v7 w7 ho7 hu7
            have OQ7 := Lib.hid (show w7.ownsRow (w.heap.size + 1) 9 1 v7 (ids ++ [id]).length (svs (ids ++ [id])) by rw [svs_appendP, List.length_append]; exact ho7)
            have GD7 := Lib.hid (blk_upd GD.out hu7 (fun e => owns_ne OQ.out GD.out (by decide) e))
            have GN7 := Lib.hid (blk_upd GN.out hu7 (fun e => owns_ne OQ.out GN.out (by decide) e))
            have ON7 := Lib.hid (owns_apart ON.out OQ.out hu7 (by decide))
            have HB7 := Lib.hid (HB.out.trans (hu7.below HB.out.size (fun k hk => Nat.le_of_succ_le (OQ.out.lt k hk).1)))
            clear ho7 hu7 n0 n1 GD GN ON OQ HB OD
            obtain ⟨n0, n1, _, _⟩ := cell_of_two GN7.out
            (refine hK.out _ _ (fun w' => w'.cell? ⟨nb, 0, none⟩ = some (.slice a2 fl.length c2) ∧ w'.cell? ⟨nb, 1, none⟩ = some (.int .i64 (-1))) (.inl fun _ h => h) (⟨n0, n1⟩) ?_; clear hK K; try simp only [Act.put, List.setIfInBounds_toArray, List.set_cons_zero, List.set_cons_succ])
            try repeat (first | (refine Sole.ro_q (by rfl) (v := ?_) ?_ ?_; rotate_left; (focus (intro w' hSw; (try dsimp only at hSw); go_simp; try with_reducible rfl)); simp only [Act.put, List.setIfInBounds_toArray, List.set_cons_zero, List.set_cons_succ]) | (refine Sole.ro_skip (by rfl) ?_; simp only [Act.put, List.setIfInBounds_toArray, List.set_cons_zero, List.set_cons_succ]))
            (refine Sole.ro_loud (by rfl) (fun K hK => ?_))
            refine wp_store_blkS 38 (.tmp 7) (.tmp 50) rfl w.heap.size #[.slice a2 fl.length c2, .int .i64 (-1)] rfl rfl (old := _) GD7.out (by kernel_rfl) rfl (by simp [Value.oneCell']) ?_
            intro w8 gz uz
            have GD8 := Lib.hid gz
            have ON8 := Lib.hid (own_storeK ON7.out uz GD7.out (by decide))
            have OQ8 := Lib.hid (own_storeK OQ7.out uz GD7.out (by decide))
            have HB8 := Lib.hid (below_upd HB7.out uz (Nat.le_refl _) HB7.out.size)
            have GN8 := Lib.hid (blk_upd GN7.out uz (Nat.ne_of_gt HNB.out))
            clear gz uz n0 n1 GN7 GD7 ON7 OQ7 HB7
            obtain ⟨n0, n1, _, _⟩ := cell_of_two GN8.out
            (refine hK.out _ _ (fun w' => w'.cell? ⟨nb, 0, none⟩ = some (.slice a2 fl.length c2) ∧ w'.cell? ⟨nb, 1, none⟩ = some (.int .i64 (-1))) (.inl fun _ h => h) (⟨n0, n1⟩) ?_; clear hK K; try simp only [Act.put, List.setIfInBounds_toArray, List.set_cons_zero, List.set_cons_succ])
            repeat (first | (refine Sole.ro_q (by rfl) (v := ?_) ?_ ?_; rotate_left; (focus (intro w' hSw; (try dsimp only at hSw); go_simp; try with_reducible rfl)); simp only [Act.put, List.setIfInBounds_toArray, List.set_cons_zero, List.set_cons_succ]) | (refine Sole.ro_skip (by rfl) ?_; simp only [Act.put, List.setIfInBounds_toArray, List.set_cons_zero, List.set_cons_succ]))
            refine Sole.ro_nil ?_
            go_wp2_with fail
            exact ⟨⟨k + 1, fl, a2, c2, ids ++ [id], by have := HKL.out; omega, by have := HKL.out; omega, rfl, HS2, GD8, ON8, OQ8, HB8⟩, meas_step (n := 40) _ rfl HKL.out.2⟩
          · have n1 : (er == 0) = false := beq_eq_false_iff_ne.2 he
            have n2 : (er != 0) = true := by rw [bne, n1]; rfl
            have HS2 := Lib.hid (show putsF (z0.take (k + 1)) = (⟨dl, -1⟩, ids) from HSN.out.trans (puts1_no (by rw [HQ.out]; exact he)))
            clear he HSN n0 n1
            go_wp2_with fail
            exact ⟨⟨k + 1, dl, a1, c1, ids, by have := HKL.out; omega, by have := HKL.out; omega, rfl, HS2, GD, OD, OQ, HB⟩, meas_step (n := 40) _ rfl HKL.out.2⟩
      · by_cases hk3 : k < z0.length
        · have hk80 : ¬ k < 40 := fun h => hk2 ⟨hk3, h⟩
          have kb : decide ((k : Int) < (z0.length : Int)) = true := decide_eq_true (by omega)
          have kb3 : decide (k < z0.length) = true := decide_eq_true hk3
          have kb2 : decide ((k : Int) < 40) = false := decide_eq_false (by omega)
          have kb4 : decide (k < 40) = false := decide_eq_false hk80
          clear hk2 hk3 hk80
          go_wp2_with fail
          go_meet
          exact ⟨k, dl, a1, c1, ids, hk4, HPF, GD, OD, OQ, HIL, HB⟩
        · have kb : decide ((k : Int) < (z0.length : Int)) = false := decide_eq_false (by omega)
          have kb3 : decide (k < z0.length) = false := decide_eq_false hk3
          clear hk2 hk3
          go_wp2_with fail
          go_meet
          exact ⟨k, dl, a1, c1, ids, hk4, HPF, GD, OD, OQ, HIL, HB⟩
  case rest =>
    clear GD0 HB0
    obtain ⟨k, dl, a1, c1, ids, hk4, HPF, GD, OD, OQ, HIL, HB⟩ := hcut
    obtain ⟨q1, q2, rfl⟩ := owns_slice OQ.out
    obtain ⟨X, hX⟩ : ∃ X, X = wc := ⟨_, rfl⟩
    subst hX
    have HZI := Lib.hid (fun wr (h : Below X.heap.size X wr) => HZ1.out wr (HB.out.trans (h.mono HB.out.size)))
    have HID := Lib.hid (fun wr (h : Below X.heap.size X wr) => (rdS_owns OQ.out).below h)
    go_upto_block 2 with fail
    go_cut [9] (fun s9 wc => ∃ roots : List ByteArray, Hid (wc.ownsRow X.heap.size 9 1 s9 roots.length (svs roots)) ∧ Hid (∀ x ∈ roots, x ∈ ids) ∧ Hid (roots.length ≤ 5) ∧ Hid (Below X.heap.size X wc))
    case first =>
      go_wp2_with fail
      go_loopw [9, 14] (fun vr i wr => ∃ (m : Nat) (roots : List ByteArray), m ≤ z1.length ∧ m ≤ 5 ∧ i = .int .i64 (m : Int) ∧ Hid (wr.ownsRow X.heap.size 9 1 vr roots.length (svs roots)) ∧ Hid (∀ x ∈ roots, x ∈ ids) ∧ Hid (roots.length ≤ m) ∧ Hid (Below X.heap.size X wr)) (fun _ i _ => 5 - (intOf i).toNat)
      case atStart => exact ⟨0, [], Nat.zero_le _, Nat.zero_le _, rfl, Lib.hid (World.ownsRow_nil _ _ _ _), Lib.hid (fun x hx => by cases hx), Lib.hid (Nat.zero_le _), Lib.hid (Below.refl _ _)⟩
      case round =>
        obtain ⟨m, roots, hm, hm5, rfl, HO, HRI, HRL, HB1⟩ := hrel
        have hi0 := HIL.out
        by_cases c1_ : m < z1.length
        · have k1 : decide ((m : Int) < (z1.length : Int)) = true := decide_eq_true (by omega)
          have k1b : decide (m < z1.length) = true := decide_eq_true c1_
          by_cases c2_ : m < 5
          · have k2 : decide ((m : Int) < 5) = true := decide_eq_true (by omega)
            have k2b : decide (m < 5) = true := decide_eq_true c2_
            by_cases c3_ : 0 < ids.length
            · have k3 : decide ((0 : Int) < (ids.length : Int)) = true := decide_eq_true (by omega)
              have k3b : decide (0 < ids.length) = true := decide_eq_true c3_
              have HM := Lib.hid (And.intro c1_ c2_)
              have mi : (m : Int) < (z1.length : Int) := by omega
              have mz : (0 : Int) ≤ (m : Int) := by omega
              obtain ⟨bz, oz, hbz, _, hcz⟩ := rdI_at (HZI.out _ HB1.out) (by omega)
              subst hbz
              have e0 := hcz m c1_
              obtain ⟨n, hn⟩ : ∃ n, n = z1.getD m 0 := ⟨_, rfl⟩
              rw [← hn] at e0
              have hnr := HZW.out n (by rw [hn, List.getD, List.getElem?_eq_getElem c1_]; exact List.getElem_mem c1_)
              have hpk := pickD_any n ids.length wr hnr.1 hnr.2 (by omega) (by omega)
              have hpl := pickD_law n ids.length (by omega)
              obtain ⟨j, hj⟩ : ∃ j : Nat, (j : Int) = n % (ids.length : Int) := ⟨(n % (ids.length : Int)).toNat, by omega⟩
              rw [← hj] at hpk hpl
              have jz : (0 : Int) ≤ (j : Int) := by omega
              have ji : (j : Int) < (ids.length : Int) := hpl.2
              have jn : j < ids.length := by omega
              obtain ⟨bi, oi, hbi, _, hci⟩ := rdS_at' (HID.out _ HB1.out) (by omega)
              subst hbi
              obtain ⟨y, hy⟩ : ∃ y, y = ids.getD j noB := ⟨_, rfl⟩
              have i0 := hci j jn
              rw [← hy] at i0
              have HYI := Lib.hid (show y ∈ ids by rw [hy, List.getD, List.getElem?_eq_getElem jn]; exact List.getElem_mem jn)
              have HC := Lib.hid hpk
              have hby : (roots.length + 1) * 16 ≤ 140737488355328 := by have := HRL.out; omega
              clear hpk hpl hj hn hcz hci hy hnr c1_ c2_ c3_
              go_wp2_with fail
              (with_reducible refine HC.out.mono ?_)
              rintro e wz ⟨rfl, rfl⟩
              clear HC
              go_wp2_with (first | (at_builtin; refine wpList_append1 (w0 := X) (B := X.heap.size) (by rfl) _ _ 22 rfl info_string Tryd.underlying22 rfl (by decide) (by decide) HO.out HB1.out (Nat.le_refl _) HB1.out.size (cs := #[.string y]) rfl (by simp [Value.oneCell']) hby rfl rfl ?_; intro v5 w5 ho5 hb5 _; have HO5 := Lib.hid ho5; have HB5 := Lib.hid hb5; clear ho5 hb5))
              have HRI5 := Lib.hid (show ∀ x ∈ roots ++ [y], x ∈ ids from fun x hx => (List.mem_append.1 hx).elim (HRI.out x) (fun h => by rw [List.mem_singleton.1 h]; exact HYI.out))
              exact ⟨⟨m + 1, roots ++ [y], by have := HM.out; omega, by have := HM.out; omega, rfl, Lib.hid (by rw [svs_appendP, List.length_append]; exact HO5.out), HRI5, Lib.hid (by have := HRL.out; simp only [List.length_append, List.length_cons, List.length_nil]; omega), HB5⟩, meas_step (n := 5) _ rfl HM.out.2⟩
            · have k3 : decide ((0 : Int) < (ids.length : Int)) = false := decide_eq_false (by omega)
              have k3b : decide (0 < ids.length) = false := decide_eq_false c3_
              clear c1_ c2_ c3_
              go_wp2_with fail
              go_meet
              exact ⟨roots, HO, HRI, Lib.hid (by have := HRL.out; omega), HB1⟩
          · have k2 : decide ((m : Int) < 5) = false := decide_eq_false (by omega)
            have k2b : decide (m < 5) = false := decide_eq_false c2_
            clear c1_ c2_
            go_wp2_with fail
            go_meet
            exact ⟨roots, HO, HRI, Lib.hid (by have := HRL.out; omega), HB1⟩
        · have k1 : decide ((m : Int) < (z1.length : Int)) = false := decide_eq_false (by omega)
          have k1b : decide (m < z1.length) = false := decide_eq_false c1_
          clear c1_
          go_wp2_with fail
          go_meet
          exact ⟨roots, HO, HRI, Lib.hid (by have := HRL.out; omega), HB1⟩
    case rest =>
      obtain ⟨roots, HO, HRI, HRL, HB1⟩ := hcut
      obtain ⟨r1, r2, rfl⟩ := owns_slice HO.out
      obtain ⟨Y, hX⟩ : ∃ X, X = wc := ⟨_, rfl⟩
      subst hX
      have hob := puts_obj (z0.take k)
      rw [HPF.out] at hob
      have HOB := Lib.hid (show ObjD dl from hob)
      have HRS := Lib.hid (show smalls roots from fun y hy => by have := (puts_law (z0.take k)).2 y (by rw [HPF.out]; exact HRI.out y hy); omega)
      replace GD := Lib.hid (blk_below GD.out HB1.out)
      have RD := Lib.hid ((rdF_owns OD.out).below HB1.out)
      have RO := Lib.hid (rdS_owns HO.out)
      replace HB := Lib.hid (HB.out.trans (HB1.out.mono HB.out.size))
      clear hob HB1 HO OD OQ HZI HID HRI HIL HPF
      have hcl := closure_any dl (-1) _ Y RD.out roots _ RO.out HRS.out (by have := HRL.out; omega) (HT.out _ HB.out)
      obtain ⟨⟨keep, e0⟩, hq⟩ : ∃ q, q = reachF (getF ⟨dl, -1⟩) roots := ⟨_, rfl⟩
      rw [← hq] at hcl
      have HQ := Lib.hid hq.symm
      have HC := Lib.hid hcl
      clear hcl hq
      obtain ⟨c0, c1_, z0_, z1_⟩ := cell_of_two GD.out
      go_wp2_with fail
      clear c0 c1_ z0_ z1_
      (with_reducible refine HC.out.mono ?_)
      rintro e Y2 ⟨vk, rfl, hrk, hb⟩
      obtain ⟨k1, k2, rfl⟩ := rd_form hrk
      replace GD := Lib.hid (blk_below GD.out hb)
      replace RD := Lib.hid (RD.out.below hb)
      replace RO := Lib.hid (RO.out.below hb)
      replace HB := Lib.hid (HB.out.trans (hb.mono HB.out.size))
      have RK := Lib.hid hrk
      clear HC hb hrk
      by_cases he : e0 = 0
      · subst he
        have HC := Lib.hid (stores_any Y2 (HT.out _ HB.out))
        go_wp2_with fail
        (with_reducible refine HC.out.mono ?_)
        rintro e Y3 ⟨rfl, hb⟩
        replace GD := Lib.hid (blk_below GD.out hb)
        replace RD := Lib.hid (RD.out.below hb)
        replace RO := Lib.hid (RO.out.below hb)
        replace RK := Lib.hid (RK.out.below hb)
        replace HB := Lib.hid (HB.out.trans (hb.mono HB.out.size))
        clear HC hb
        obtain ⟨r, hr7⟩ : ∃ r, r = fuse % 30 := ⟨_, rfl⟩
        have hpk := pick30 fuse Y3 HFU.out
        rw [← hr7] at hpk
        have hrl : 0 ≤ r ∧ r < 30 := by rw [hr7]; exact pickD_law fuse 30 (by omega)
        obtain ⟨f1, hf1⟩ : ∃ f1, r - 1 = f1 := ⟨_, rfl⟩
        have hr0 : 0 ≤ r := hrl.1
        have hr6 : r < 30 := hrl.2
        have HF1 := Lib.hid (show -9223372036854775808 ≤ f1 ∧ f1 ≤ 9223372036854775807 by omega)
        have HC := Lib.hid hpk
        clear hpk hr7 hrl
        obtain ⟨Z, hZ⟩ : ∃ Z, Y3.setCell ⟨w.heap.size, 1, none⟩ (.int .i64 f1) = Z := ⟨_, rfl⟩
        have huz : Upd (fun i => i = w.heap.size) Y3 Z := by rw [← hZ]; exact (Upd.refl (fun i => i = w.heap.size) _).setCell (a := ⟨w.heap.size, 1, none⟩) (.inl rfl) _
        have GD4 := Lib.hid (show Z.heap[w.heap.size]? = some (.cells #[.slice a1 dl.length c1, .int .i64 f1] 38 (0, 0)) by rw [← hZ]; exact two_setCell1 GD.out)
        replace RD := Lib.hid (rdF_upd RD.out huz (no_str GD.out))
        replace RO := Lib.hid (rdS_updK RO.out huz (no_str GD.out))
        replace RK := Lib.hid (rdS_updK RK.out huz (no_str GD.out))
        have HB4 := Lib.hid (below_upd HB.out huz (Nat.le_refl _) HB.out.size)
        obtain ⟨c0, c1_, z0_, z1_⟩ := cell_of_two GD.out
        clear huz
        go_wp2_with fail
        (with_reducible refine HC.out.mono ?_)
        rintro e Yq ⟨rfl, rfl⟩
        clear HC
        have hsw := sweep_any dl f1 HF1.out _ Z RD.out (fun f hf => by have := named_sizeD (HOB.out.good.name f hf); omega) HOB.out.good.len roots _ RO.out HRS.out (by have := HRL.out; omega) (HT.out _ HB4.out)
        obtain ⟨⟨⟨al, af⟩, ef⟩, hsq⟩ : ∃ q, q = sweepF ⟨dl, f1⟩ roots := ⟨_, rfl⟩
        rw [← hsq] at hsw
        obtain ⟨hl1, hl2, hl3, hl4⟩ := swept_law HOB.out HQ.out hsq.symm
        have HL1 := Lib.hid hl1
        have HL2 := Lib.hid hl2
        have HL3 := Lib.hid hl3
        have HL4 := Lib.hid (show ObjD al from hl4)
        have HKC := Lib.hid (reach_ok HQ.out).1
        have HC := Lib.hid hsw
        clear hsw hsq hl1 hl2 hl3 hl4
        clear c0 c1_ z0_ z1_
        obtain ⟨c0, c1_, z0_, z1_⟩ := cell_of_two GD4.out
        skip
        obtain ⟨d0_, d1_, dz0, dz1⟩ := cell_of_two GD.out
        go_wp2_with fail
        clear hr0 hr6 hf1 d0_ d1_ dz0 dz1
        clear c0 c1_ z0_ z1_
        (with_reducible refine HC.out.mono ?_)
        rintro e Z1 ⟨v3, rfl, hrd, hb⟩
        clear GD HB
        have GD := GD4
        have HB := HB4
        clear GD4 HB4 hZ
        obtain ⟨a3, c3, rfl⟩ := rd_form hrd
        have RA := Lib.hid hrd
        replace GD := Lib.hid (blk_below GD.out hb)
        replace RD := Lib.hid (RD.out.below hb)
        replace RK := Lib.hid (RK.out.below hb)
        replace HB := Lib.hid (HB.out.trans (hb.mono HB.out.size))
        clear HC hb hrd RO
        go_wp2_with (refine wpList_store_blk (by rfl) 38 (.tmp 19) (.tmp 120) rfl Z1.heap.size #[.slice a3 al.length c3, .int .i64 af] rfl rfl (old := _) (heap_alloc_new _ _) (by kernel_rfl) rfl (by simp [Value.oneCell']) ?_; intro Z2 gz uz; have hb := below_upd ((Below.refl Z1.heap.size Z1).alloc (Nat.le_refl _) _) uz (Nat.le_refl _) (by simp); replace GD := Lib.hid (blk_below GD.out hb); replace RD := Lib.hid (RD.out.below hb); replace RA := Lib.hid (RA.out.below hb); replace RK := Lib.hid (RK.out.below hb); replace HB := Lib.hid (HB.out.trans (hb.mono HB.out.size)); have GA := Lib.hid gz; clear gz uz hb)
        obtain ⟨ga, hga⟩ : ∃ ga, ga = Z1.heap.size := ⟨_, rfl⟩
        rw [← hga] at GA
        try rw [← hga]
        clear hga
        have HGD := Lib.hid (fun wr (h : Below Z2.heap.size Z2 wr) => blk_below GD.out h)
        have HGA := Lib.hid (fun wr (h : Below Z2.heap.size Z2 wr) => blk_below GA.out h)
        have HRD := Lib.hid (fun wr (h : Below Z2.heap.size Z2 wr) => RD.out.below h)
        have HRA := Lib.hid (fun wr (h : Below Z2.heap.size Z2 wr) => RA.out.below h)
        have HRK := Lib.hid (fun wr (h : Below Z2.heap.size Z2 wr) => RK.out.below h)
        have HTZ := Lib.hid (fun wr (h : Below Z2.heap.size Z2 wr) => HT.out wr (HB.out.trans (h.mono HB.out.size)))
        have HB0 := Lib.hid (Below.refl Z2.heap.size Z2)
        clear GD GA RD RA RK
        go_loopw [21] (fun i wr => ∃ j : Nat, j ≤ keep.length ∧ i = .int .i64 (j : Int) ∧ Hid (Below Z2.heap.size Z2 wr)) (fun i _ => keep.length - (intOf i).toNat)
        case atStart => exact ⟨0, Nat.zero_le _, rfl, HB0⟩
        case round =>
          clear HB0
          obtain ⟨j, hj, rfl, HB1⟩ := hrel
          have hk4_ := HKC.out.len
          by_cases hjl : j < keep.length
          · have HJL := Lib.hid hjl
            have kb : decide ((j : Int) < (keep.length : Int)) = true := decide_eq_true (by omega)
            have ki : (j : Int) < (keep.length : Int) := by omega
            have kn : j < keep.length := hjl
            have kz : (0 : Int) ≤ (j : Int) := by omega
            have k4 : (j : Int) < 400 := by omega
            obtain ⟨bl, ol, hbl, _, _⟩ := rdS_at' (HRK.out _ HB1.out) (by omega)
            subst hbl
            obtain ⟨x, hx⟩ : ∃ x, x = keep.getD j noB := ⟨_, rfl⟩
            have HXC := Lib.hid (fun wr (h : Below Z2.heap.size Z2 wr) => ((rdS_cl (HRK.out wr h) hjl).trans (by rw [← hx]) : wr.cell? ⟨bl, ol + j, none⟩ = some (.string x)))
            have hin : x ∈ keep := by rw [hx, List.getD, List.getElem?_eq_getElem hjl]; exact List.getElem_mem hjl
            obtain ⟨s, hg1, hg2⟩ := HL1.out x hin
            have hx32 := (get_sum hg1).2.1
            have hget1 := fun wr (h : Below Z2.heap.size Z2 wr) => sget_any dl f1 _ wr (HRD.out wr h) x (by omega) (HTZ.out wr h)
            have hget2 := fun wr (h : Below Z2.heap.size Z2 wr) => sget_any al af _ wr (HRA.out wr h) x (by omega) (HTZ.out wr h)
            rw [hg1] at hget1
            rw [hg2] at hget2
            have HGET1 := Lib.hid hget1
            have HGET2 := Lib.hid hget2
            have m1 := beq_yes s
            have m2 : (s.toList != s.toList) = false := by rw [bne, m1]; rfl
            clear hget1 hget2 hg1 hg2 hin hx hjl hx32
            have hb := (Below.refl wr.heap.size wr).drew
            replace HB1 := Lib.hid (HB1.out.trans (hb.mono HB1.out.size))
            clear hb
            go_wp2_with fail
            obtain ⟨wd, hwd⟩ : ∃ x, wr.drew = x := ⟨_, rfl⟩
            rw [hwd] at HB1
            refine Lone.wp_region_order [(0, false), (1, false), (2, false), (3, false), (4, false), (5, true), (6, false), (7, false), (8, false), (9, false), (10, false)] (fun w' => w'.cell? ⟨w.heap.size, 0, none⟩ = some (.slice a1 dl.length c1) ∧ w'.cell? ⟨w.heap.size, 1, none⟩ = some (.int .i64 f1) ∧ w'.cell? ⟨bl, ol + j, none⟩ = some (.string x)) (by kernel_rfl) (by kernel_rfl) rfl (by kernel_rfl) (by intro _ _ d _ _ h; cases d <;> exact h) (hwd ▸ (let h := cell_of_two (HGD.out _ HB1.out); ⟨h.1, h.2.1, HXC.out _ HB1.out⟩)) ?_; simp only [List.map_cons, List.map_nil, List.getElem?_toArray, List.getElem?_cons_zero, List.getElem?_cons_succ, Option.getD_some]
            rw [hwd]
            clear hwd
            repeat (first | (refine Lone.ro_q (by rfl) (v := ?_) ?_ ?_; rotate_left; (focus (intro w' hSw; (try dsimp only at hSw); go_simp; try with_reducible rfl)); simp only [Act.put, List.setIfInBounds_toArray, List.set_cons_zero, List.set_cons_succ]) | (refine Lone.ro_skip (by rfl) ?_; simp only [Act.put, List.setIfInBounds_toArray, List.set_cons_zero, List.set_cons_succ]))
            (refine Lone.ro_loud (by rfl) (fun K hK => ?_); go_simp)
            (with_reducible refine (HGET1.out _ HB1.out).mono ?_)
            rintro e w3 ⟨rfl, hb⟩
            replace HB1 := Lib.hid (HB1.out.trans (hb.mono HB1.out.size))
            clear hb HGET1
            (refine hK.out _ _ (fun w' => w'.cell? ⟨w.heap.size, 0, none⟩ = some (.slice a1 dl.length c1) ∧ w'.cell? ⟨w.heap.size, 1, none⟩ = some (.int .i64 f1) ∧ w'.cell? ⟨bl, ol + j, none⟩ = some (.string x)) (.inl fun _ h => h) ((let h := cell_of_two (HGD.out _ HB1.out); ⟨h.1, h.2.1, HXC.out _ HB1.out⟩)) ?_; clear hK K; try simp only [Act.put, List.setIfInBounds_toArray, List.set_cons_zero, List.set_cons_succ])
            repeat (first | (refine Lone.ro_q (by rfl) (v := ?_) ?_ ?_; rotate_left; (focus (intro w' hSw; (try dsimp only at hSw); go_simp; try with_reducible rfl)); simp only [Act.put, List.setIfInBounds_toArray, List.set_cons_zero, List.set_cons_succ]) | (refine Lone.ro_skip (by rfl) ?_; simp only [Act.put, List.setIfInBounds_toArray, List.set_cons_zero, List.set_cons_succ]))
            refine Lone.ro_nil ?_
            have hb := (Below.refl w3.heap.size w3).drew
            replace HB1 := Lib.hid (HB1.out.trans (hb.mono HB1.out.size))
            clear hb
            go_wp2_with fail
            obtain ⟨wd, hwd⟩ : ∃ x, w3.drew = x := ⟨_, rfl⟩
            rw [hwd] at HB1
            refine Lone.wp_region_order [(0, false), (1, false), (2, false), (3, false), (4, false), (5, true), (6, false), (7, false), (8, false), (9, false), (10, false)] (fun w' => w'.cell? ⟨ga, 0, none⟩ = some (.slice a3 al.length c3) ∧ w'.cell? ⟨ga, 1, none⟩ = some (.int .i64 af) ∧ w'.cell? ⟨bl, ol + j, none⟩ = some (.string x)) (by kernel_rfl) (by kernel_rfl) rfl (by kernel_rfl) (by intro _ _ d _ _ h; cases d <;> exact h) (hwd ▸ (let h := cell_of_two (HGA.out _ HB1.out); ⟨h.1, h.2.1, HXC.out _ HB1.out⟩)) ?_; simp only [List.map_cons, List.map_nil, List.getElem?_toArray, List.getElem?_cons_zero, List.getElem?_cons_succ, Option.getD_some]
            rw [hwd]
            clear hwd
            repeat (first | (refine Lone.ro_q (by rfl) (v := ?_) ?_ ?_; rotate_left; (focus (intro w' hSw; (try dsimp only at hSw); go_simp; try with_reducible rfl)); simp only [Act.put, List.setIfInBounds_toArray, List.set_cons_zero, List.set_cons_succ]) | (refine Lone.ro_skip (by rfl) ?_; simp only [Act.put, List.setIfInBounds_toArray, List.set_cons_zero, List.set_cons_succ]))
            (refine Lone.ro_loud (by rfl) (fun K hK => ?_); go_simp)
            (with_reducible refine (HGET2.out _ HB1.out).mono ?_)
            rintro e w4 ⟨rfl, hb⟩
            replace HB1 := Lib.hid (HB1.out.trans (hb.mono HB1.out.size))
            clear hb HGET2
            (refine hK.out _ _ (fun w' => w'.cell? ⟨ga, 0, none⟩ = some (.slice a3 al.length c3) ∧ w'.cell? ⟨ga, 1, none⟩ = some (.int .i64 af) ∧ w'.cell? ⟨bl, ol + j, none⟩ = some (.string x)) (.inl fun _ h => h) ((let h := cell_of_two (HGA.out _ HB1.out); ⟨h.1, h.2.1, HXC.out _ HB1.out⟩)) ?_; clear hK K; try simp only [Act.put, List.setIfInBounds_toArray, List.set_cons_zero, List.set_cons_succ])
            repeat (first | (refine Lone.ro_q (by rfl) (v := ?_) ?_ ?_; rotate_left; (focus (intro w' hSw; (try dsimp only at hSw); go_simp; try with_reducible rfl)); simp only [Act.put, List.setIfInBounds_toArray, List.set_cons_zero, List.set_cons_succ]) | (refine Lone.ro_skip (by rfl) ?_; simp only [Act.put, List.setIfInBounds_toArray, List.set_cons_zero, List.set_cons_succ]))
            refine Lone.ro_nil ?_
            go_wp2_with fail
            exact ⟨⟨j + 1, HJL.out, rfl, HB1⟩, meas_step (n := keep.length) _ rfl HJL.out⟩
          · have kb : decide ((j : Int) < (keep.length : Int)) = false := decide_eq_false (by omega)
            have kb2 : decide (j < keep.length) = false := decide_eq_false hjl
            clear hjl
            have hid := sids_any al af _ wr (HRA.out _ HB1.out) (fun f hf => by have := named_sizeD (HL4.out.good.name f hf); omega) HL4.out.good.len (HTZ.out _ HB1.out)
            obtain ⟨L, hL⟩ : ∃ L, L = idsG ⟨al, af⟩ al := ⟨_, rfl⟩
            rw [← hL] at hid
            have HLE := Lib.hid hL
            have HC := Lib.hid hid
            clear hid hL
            obtain ⟨d0, d1, y0, y1⟩ := cell_of_two (HGA.out _ HB1.out)
            go_wp2_with fail
            clear d0 d1 y0 y1
            (with_reducible refine HC.out.mono ?_)
            rintro e w5 ⟨v5, rfl, ho5, hb⟩
            replace HB1 := Lib.hid (HB1.out.trans (hb.mono HB1.out.size))
            have RL := Lib.hid (rdS_owns ho5)
            obtain ⟨l1, l2, rfl⟩ := rd_form RL.out
            clear HC hb ho5
            by_cases hf : ef = 0
            · have hLk : L = keep := HLE.out.trans (HL2.out hf)
              subst hf
              have hsm := same_any L keep _ _ w5 RL.out (HRK.out _ HB1.out)
              rw [show decide (L = keep) = true from decide_eq_true hLk] at hsm
              have HC := Lib.hid hsm
              clear hsm hLk
              go_wp2_with fail
              (with_reducible refine HC.out.mono ?_)
              rintro e w6 ⟨rfl, hb⟩
              replace HB1 := Lib.hid (HB1.out.trans (hb.mono HB1.out.size))
              clear HC hb
              go_wp2_with fail
              go_ret
              exact ⟨rfl, HB.out.trans (HB1.out.mono HB.out.size)⟩
            · obtain ⟨h12, hln⟩ := HL3.out hf
              have hln2 : keep.length ≤ L.length := by rw [HLE.out]; exact hln
              have hlb : decide ((keep.length : Int) ≤ (L.length : Int)) = true := decide_eq_true (by omega)
              have hlb2 : decide (keep.length ≤ L.length) = true := decide_eq_true hln2
              clear hf hln hln2
              subst h12
              go_wp2_with fail
              go_ret
              exact ⟨rfl, HB.out.trans (HB1.out.mono HB.out.size)⟩
      · have n1 : (e0 == 0) = false := beq_eq_false_iff_ne.2 he
        have n2 : (e0 != 0) = true := by rw [bne, n1]; rfl
        have hsw := sweep_any dl (-1) (by decide) _ Y2 RD.out (fun f hf => by have := named_sizeD (HOB.out.good.name f hf); omega) HOB.out.good.len roots _ RO.out HRS.out (by have := HRL.out; omega) (HT.out _ HB.out)
        rw [sweepF_1 HQ.out he] at hsw
        have HC := Lib.hid hsw
        clear hsw he
        obtain ⟨c0, c1_, z0_, z1_⟩ := cell_of_two GD.out
        go_wp2_with fail
        clear c0 c1_ z0_ z1_
        (with_reducible refine HC.out.mono ?_)
        rintro e Y3 ⟨v3, rfl, hrd, hb⟩
        obtain ⟨a3, c3, rfl⟩ := rd_form hrd
        have RA := Lib.hid hrd
        replace GD := Lib.hid (blk_below GD.out hb)
        replace RD := Lib.hid (RD.out.below hb)
        replace HB := Lib.hid (HB.out.trans (hb.mono HB.out.size))
        clear HC hb hrd
        go_wp2_with (refine wpList_store_blk (by rfl) 38 (.tmp 17) (.tmp 99) rfl Y3.heap.size #[.slice a3 dl.length c3, .int .i64 (-1)] rfl rfl (old := _) (heap_alloc_new _ _) (by kernel_rfl) rfl (by simp [Value.oneCell']) ?_; intro Y4 gz uz; have hb := below_upd ((Below.refl Y3.heap.size Y3).alloc (Nat.le_refl _) _) uz (Nat.le_refl _) (by simp); replace GD := Lib.hid (blk_below GD.out hb); replace RD := Lib.hid (RD.out.below hb); replace RA := Lib.hid (RA.out.below hb); replace HB := Lib.hid (HB.out.trans (hb.mono HB.out.size)); have GA := Lib.hid gz; clear gz uz hb; obtain ⟨c0, c1_, z0_, z1_⟩ := cell_of_two GD.out; obtain ⟨d0, d1, y0, y1⟩ := cell_of_two GA.out)
        have HC := Lib.hid (sameDisk_any dl (-1) _ _ Y4 RA.out RD.out)
        (with_reducible refine HC.out.mono ?_)
        rintro e Y5 ⟨rfl, hb⟩
        clear d0 d1 y0 y1
        clear c0 c1_ z0_ z1_
        replace HB := Lib.hid (HB.out.trans (hb.mono HB.out.size))
        clear HC hb
        have HC := Lib.hid (stores_any Y5 (HT.out _ HB.out))
        go_wp2_with fail
        (with_reducible refine HC.out.mono ?_)
        rintro e Y6 ⟨rfl, hb⟩
        replace HB := Lib.hid (HB.out.trans (hb.mono HB.out.size))
        clear HC hb
        go_wp2_with fail
        go_ret
        exact ⟨rfl, HB.out⟩
end Go.Proofs.YtalkheljejkpiaaDoor
