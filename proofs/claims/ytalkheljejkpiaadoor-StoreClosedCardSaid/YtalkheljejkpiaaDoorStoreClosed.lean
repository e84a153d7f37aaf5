/- The walk of StoreClosed. -/
import Derived.Test.YtalkheljejkpiaaDoorStore6
import Derived.Test.YtalkheljejkpiaaDoorClosedLaw
import Derived.Test.YtalkheljejkpiaaDoorPutsLaw
import Derived.Test.YtalkheljejkpiaaDoorWithin
import Derived.Test.YtalkheljejkpiaaDoorStore2
import Derived.Test.YtalkheljejkpiaaDoorRegion3
namespace Go.Proofs.YtalkheljejkpiaaDoor
open Go.RowKit Go.Maps
set_option linter.unusedVariables false
set_option linter.unusedSimpArgs false

theorem own_storeK {w w' : World} {base g : Nat} {e t : TypeId} {size : Nat} {v : Value} {n : Nat} {xs : List Value} {cs : Array Value} {fr : Nat × Nat} (h : w.ownsRow base e size v n xs) (hu : Upd (· = g) w w') (hg : w.heap[g]? = some (.cells cs t fr)) (hne : e ≠ t) : w'.ownsRow base e size v n xs :=
  owns_upd h hu (fun k hk e' => owns_ne h hg hne (e' ▸ hk))
theorem owns_apart {w w' : World} {base base2 : Nat} {e e2 : TypeId} {size size2 : Nat} {v v2 : Value} {n n2 : Nat} {xs xs2 : List Value} (h : w.ownsRow base e size v n xs) (h2 : w.ownsRow base2 e2 size2 v2 n2 xs2) (hu : Upd (fun k => v2.ownBlock = some k) w w') (hne : e ≠ e2) : w'.ownsRow base e size v n xs :=
  owns_upd h hu (fun k hk e' => by
    obtain ⟨_, cs, f, hg⟩ := owns_elem h2 e'
    exact owns_ne h hg hne hk)
theorem svs_appendP (a b : List ByteArray) : svs (a ++ b) = svs a ++ svs b := by simp [svs]
set_option maxRecDepth 100000 in
set_option maxHeartbeats 3200000 in
theorem storeClosed_walk {w : World} (ht : Tab w) (v0 : Value) (len0 : Nat) (z0 : List ByteArray) (f0 : rdRow w 1 v0 len0 (z0.map .string)) (g0 : ∀ s ∈ z0, s.size ≤ 140737488351232) (m0 : len0 * 16 ≤ 140737488351232) (v1 : Value) (len1 : Nat) (z1 : List ByteArray) (f1 : rdRow w 1 v1 len1 (z1.map .string)) (g1 : ∀ s ∈ z1, s.size ≤ 140737488351232) (m1 : len1 * 16 ≤ 140737488351232) (root : ByteArray) (froot : root.size ≤ 140737488351232) :
    Calls Tryd.prog 8 #[v0, v1, .string root] w fun e w' => e = .returned (.bool true) ∧ Below w.heap.size w w' := by
  obtain ⟨hr0, hs0, hm0⟩ := rdS_in f0 g0 m0
  obtain ⟨hr1, hs1, hm1⟩ := rdS_in f1 g1 m1
  have HT := Lib.hid (fun wr (h : Below w.heap.size w wr) => ht.below h)
  have HZ := Lib.hid (fun wr (h : Below w.heap.size w wr) => hr0.below h)
  have HE := Lib.hid (fun wr (h : Below w.heap.size w wr) => hr1.below h)
  have HSZ := Lib.hid hs0
  have HES := Lib.hid hs1
  have HE16 := Lib.hid hm1
  have HFR := Lib.hid froot
  have HLN := Lib.hid (rdS_len hr0)
  obtain ⟨a0, c0_, rfl⟩ := rd_form hr0
  obtain ⟨b0, d0_, rfl⟩ := rd_form hr1
  clear f0 g0 m0 hr0 hs0 hm0 f1 g1 m1 hr1 hs1 hm1 froot ht
  go_enter Tryd.func8, Tryd.ntmps8
  go_wp2_with (refine wpList_store_blk (by rfl) 38 (.tmp 7) (.tmp 26) rfl w.heap.size #[.slice none 0 0, .int .i64 (-1)] rfl rfl (old := _) (heap_alloc_new _ _) (by kernel_rfl) rfl (by simp [Value.oneCell']) ?_; intro w2 gz uz; have HB0 := Lib.hid (below_upd ((Below.refl w.heap.size w).alloc (Nat.le_refl _) _) uz (Nat.le_refl _) (by simp)); have GD0 := Lib.hid gz; clear gz uz)
  go_loopw [8, 9] (fun vq i wr => ∃ (k : Nat) (dl : List Fil) (a1 : Option Addr) (c1 : Nat) (ids : List ByteArray), k ≤ z0.length ∧ k ≤ 40 ∧ i = .int .i64 (k : Int) ∧ Hid (putsF (z0.take k) = (⟨dl, -1⟩, ids)) ∧ Hid (wr.heap[w.heap.size]? = some (.cells #[.slice a1 dl.length c1, .int .i64 (-1)] 38 (0, 0))) ∧ Hid (wr.ownsRow w.heap.size 92 3 (.slice a1 dl.length c1) dl.length (fvs dl)) ∧ Hid (wr.ownsRow (w.heap.size + 1) 9 1 vq ids.length (svs ids)) ∧ Hid (Below w.heap.size w wr)) (fun _ i _ => 40 - (intOf i).toNat)
  case atStart => exact ⟨0, [], none, 0, [], Nat.zero_le _, Nat.zero_le _, rfl, Lib.hid putsF_nil, GD0, Lib.hid (World.ownsRow_nil _ _ _ _), Lib.hid (World.ownsRow_nil _ _ _ _), HB0⟩
  case round =>
    clear GD0 HB0
    obtain ⟨k, dl, a1, c1, ids, hk, hk4, rfl, HPF, GD, OD, OQ, HB⟩ := hrel
    have hidl := puts_len (z0.take k)
    rw [HPF.out, List.length_take] at hidl
    have HIL := Lib.hid (show ids.length ≤ k from Nat.le_trans hidl (Nat.min_le_left _ _))
    clear hidl
    by_cases hk2 : k < z0.length ∧ k < 40
    · have HKL := Lib.hid hk2
      have kb : decide ((k : Int) < (z0.length : Int)) = true := decide_eq_true (by omega)
      have kb2 : decide ((k : Int) < 40) = true := decide_eq_true (by omega)
      have ki : (k : Int) < (z0.length : Int) := by omega
      have kn : k < z0.length := by omega
      have kz : (0 : Int) ≤ (k : Int) := by omega
      obtain ⟨bl, ol, hbl, _, hcl⟩ := rdS_at' (HZ.out _ HB.out) (by omega)
      subst hbl
      obtain ⟨x, hx⟩ : ∃ x, x = z0.getD k noB := ⟨_, rfl⟩
      have HXC := Lib.hid (fun wr (h : Below w.heap.size w wr) => ((rdS_cl (HZ.out wr h) kn).trans (by rw [← hx]) : wr.cell? ⟨bl, ol + k, none⟩ = some (.string x)))
      have hxm : x.size ≤ 9223372036854775807 := by rw [hx]; exact Nat.le_trans (smalls_at HSZ.out k) (by decide)
      have hput := fun wr (h : Below w.heap.size w wr) (hr : rdF wr (.slice a1 dl.length c1) dl) => sput_anyN dl (-1) (by decide) _ wr hr x hxm (HT.out wr h)
      have hfz := (put_fz ⟨dl, -1⟩ x).low (by show (-1 : Int) < 0; decide)
      obtain ⟨⟨⟨fl, af⟩, id, er⟩, hq⟩ : ∃ q, q = putF ⟨dl, -1⟩ x := ⟨_, rfl⟩
      rw [← hq] at hput hfz
      obtain rfl : af = -1 := hfz
      have HQ := Lib.hid hq.symm
      have HP := Lib.hid hput
      have HSN := Lib.hid (show putsF (z0.take (k + 1)) = puts1 (⟨dl, -1⟩, ids) x by rw [← take_snocD kn, putsF_snoc, HPF.out, ← hx])
      clear hput hq hcl hx hxm hk2
      have hb := (Below.refl wr.heap.size wr).drew
      replace GD := Lib.hid (blk_below GD.out hb)
      replace OD := Lib.hid (owns_below OD.out hb)
      replace OQ := Lib.hid (owns_below OQ.out hb)
      replace HB := Lib.hid (HB.out.trans (hb.mono HB.out.size))
      clear hb
      go_wp2_with fail
      obtain ⟨wd, hwd⟩ : ∃ x, wr.drew = x := ⟨_, rfl⟩
      rw [hwd] at HB GD OD OQ
      refine Twin.wp_region_order (.q 0 (.q 1 (.q 2 (.q 3 (.q 4 (.l2 5 10 (.q 6 (.q 7 (.q 8 (.q 9 (.l 10 (.l 11 (.q 12 (.q 13 (.nil))))))))) (.l 5 (.q 6 (.q 7 (.q 8 (.q 9 (.l 11 (.q 12 (.q 13 (.nil))))))))))))))) (fun w' => w'.cell? ⟨w.heap.size, 0, none⟩ = some (.slice a1 dl.length c1) ∧ w'.cell? ⟨w.heap.size, 1, none⟩ = some (.int .i64 (-1)) ∧ w'.cell? ⟨bl, ol + k, none⟩ = some (.string x)) (by kernel_rfl) (by kernel_rfl) rfl (by kernel_rfl) (by intro _ _ d _ _ h; cases d <;> exact h) (hwd ▸ (let h := cell_of_two GD.out; ⟨h.1, h.2.1, HXC.out _ HB.out⟩)) ?_; simp only [Twin.Ord.opers, List.getElem?_toArray, List.getElem?_cons_zero, List.getElem?_cons_succ, Option.getD_some]
      rw [hwd]
      clear hwd
      repeat (first | (refine Twin.ro_q (by rfl) (v := ?_) ?_ ?_; rotate_left; (focus (intro w' hSw; (try dsimp only at hSw); go_simp; try with_reducible rfl)); simp only [Act.put, List.setIfInBounds_toArray, List.set_cons_zero, List.set_cons_succ]) | (refine Twin.ro_skip (by rfl) ?_; simp only [Act.put, List.setIfInBounds_toArray, List.set_cons_zero, List.set_cons_succ]))
      refine Twin.ro_two ?_ ?_
      · (refine Twin.ro_loud (by rfl) (fun K hK => ?_); go_simp)
        (with_reducible refine (HP.out wd HB.out (rdF_owns OD.out)).mono ?_)
        rintro e w5 ⟨v2, rfl, hrd, hb, hnw⟩
        obtain ⟨a2, c2, rfl⟩ := rd_form hrd
        have ON := Lib.hid ((hnw.mono HB.out.size).owned (owns_below OD.out hb) (Nat.le_refl _))
        replace HB := Lib.hid (HB.out.trans (hb.mono HB.out.size))
        replace GD := Lib.hid (blk_below GD.out hb)
        replace OD := Lib.hid (owns_below OD.out hb)
        replace OQ := Lib.hid (owns_below OQ.out hb)
        clear hb hrd hnw HP
        (refine hK.out _ _ (fun w' => w'.cell? ⟨w.heap.size, 0, none⟩ = some (.slice a1 dl.length c1) ∧ w'.cell? ⟨w.heap.size, 1, none⟩ = some (.int .i64 (-1)) ∧ w'.cell? ⟨bl, ol + k, none⟩ = some (.string x)) (.inl fun _ h => h) ((let h := cell_of_two GD.out; ⟨h.1, h.2.1, HXC.out _ HB.out⟩)) ?_; clear hK K; try simp only [Act.put, List.setIfInBounds_toArray, List.set_cons_zero, List.set_cons_succ])
        try repeat (first | (refine Twin.ro_q (by rfl) (v := ?_) ?_ ?_; rotate_left; (focus (intro w' hSw; (try dsimp only at hSw); go_simp; try with_reducible rfl)); simp only [Act.put, List.setIfInBounds_toArray, List.set_cons_zero, List.set_cons_succ]) | (refine Twin.ro_skip (by rfl) ?_; simp only [Act.put, List.setIfInBounds_toArray, List.set_cons_zero, List.set_cons_succ]))
        (refine Twin.ro_loud (by rfl) (fun K hK => ?_); go_simp)
        have hb := (Below.refl w5.heap.size w5).alloc (Nat.le_refl _) (.cells #[.slice none 0 0, .int .i64 0] 38)
        have hgN := heap_alloc_new w5 (.cells #[.slice none 0 0, .int .i64 0] 38)
        obtain ⟨w6, hw6⟩ : ∃ x, w5.alloc (.cells #[.slice none 0 0, .int .i64 0] 38) = x := ⟨_, rfl⟩
        obtain ⟨nb, hnb⟩ : ∃ x, x = w5.heap.size := ⟨_, rfl⟩
        have HNB := Lib.hid (show w.heap.size < nb by rw [hnb]; exact lt_of_block GD.out)
        rw [hw6] at hb hgN
        rw [← hnb] at hgN
        have GN := Lib.hid hgN
        replace GD := Lib.hid (blk_below GD.out hb)
        replace OD := Lib.hid (owns_below OD.out hb)
        replace OQ := Lib.hid (owns_below OQ.out hb)
        replace ON := Lib.hid (owns_below ON.out hb)
        replace HB := Lib.hid (HB.out.trans (hb.mono HB.out.size))
        clear hb hgN
        (refine hK.out _ _ (fun w' => w'.cell? ⟨w.heap.size, 0, none⟩ = some (.slice a1 dl.length c1) ∧ w'.cell? ⟨w.heap.size, 1, none⟩ = some (.int .i64 (-1)) ∧ w'.cell? ⟨bl, ol + k, none⟩ = some (.string x)) (.inl fun _ h => h) (hw6 ▸ (let h := cell_of_two GD.out; ⟨h.1, h.2.1, HXC.out _ HB.out⟩)) ?_; clear hK K; try simp only [Act.put, List.setIfInBounds_toArray, List.set_cons_zero, List.set_cons_succ])
        rw [hw6]
        try rw [← hnb]
        clear hw6 hnb
        try (repeat (first | (refine Twin.ro_q (by rfl) (v := ?_) ?_ ?_; rotate_left; (focus (intro w' hSw; (try dsimp only at hSw); go_simp; try with_reducible rfl)); simp only [Act.put, List.setIfInBounds_toArray, List.set_cons_zero, List.set_cons_succ]) | (refine Twin.ro_skip (by rfl) ?_; simp only [Act.put, List.setIfInBounds_toArray, List.set_cons_zero, List.set_cons_succ])))
        (refine Twin.ro_loud (by rfl) (fun K hK => ?_))
        refine wp_store_blkS 38 (.tmp 10) (.tmp 44) rfl nb #[.slice a2 fl.length c2, .int .i64 (-1)] rfl rfl (old := _) GN.out (by kernel_rfl) rfl (by simp [Value.oneCell']) ?_
        intro w9 gz uz
        replace OD := Lib.hid (own_storeK OD.out uz GN.out (by decide))
        replace ON := Lib.hid (own_storeK ON.out uz GN.out (by decide))
        replace OQ := Lib.hid (own_storeK OQ.out uz GN.out (by decide))
        replace HB := Lib.hid (below_upd HB.out uz (Nat.le_of_lt HNB.out) HB.out.size)
        replace GD := Lib.hid (blk_upd GD.out uz (Nat.ne_of_lt HNB.out))
        replace GN := Lib.hid gz
        clear gz uz
        (refine hK.out _ _ (fun w' => w'.cell? ⟨w.heap.size, 0, none⟩ = some (.slice a1 dl.length c1) ∧ w'.cell? ⟨w.heap.size, 1, none⟩ = some (.int .i64 (-1)) ∧ w'.cell? ⟨bl, ol + k, none⟩ = some (.string x)) (.inl fun _ h => h) ((let h := cell_of_two GD.out; ⟨h.1, h.2.1, HXC.out _ HB.out⟩)) ?_; clear hK K; try simp only [Act.put, List.setIfInBounds_toArray, List.set_cons_zero, List.set_cons_succ])
        try repeat (first | (refine Twin.ro_q (by rfl) (v := ?_) ?_ ?_; rotate_left; (focus (intro w' hSw; (try dsimp only at hSw); go_simp; try with_reducible rfl)); simp only [Act.put, List.setIfInBounds_toArray, List.set_cons_zero, List.set_cons_succ]) | (refine Twin.ro_skip (by rfl) ?_; simp only [Act.put, List.setIfInBounds_toArray, List.set_cons_zero, List.set_cons_succ]))
        refine Twin.ro_nil ?_
        obtain ⟨n0, n1, _, _⟩ := cell_of_two GN.out
        by_cases he : er = 0
        · subst he
          have HS2 := Lib.hid (show putsF (z0.take (k + 1)) = (⟨fl, -1⟩, ids ++ [id]) from HSN.out.trans (puts1_ok HQ.out))
          clear HSN
          have hb := (Below.refl w9.heap.size w9).drew
          replace GD := Lib.hid (blk_below GD.out hb)
          replace ON := Lib.hid (owns_below ON.out hb)
          replace OQ := Lib.hid (owns_below OQ.out hb)
          replace GN := Lib.hid (blk_below GN.out hb)
          replace HB := Lib.hid (HB.out.trans (hb.mono HB.out.size))
          clear hb n0 n1
          go_wp2_with fail
          obtain ⟨we, hwe⟩ : ∃ x, w9.drew = x := ⟨_, rfl⟩
          rw [hwe] at HB GD ON OQ GN
          obtain ⟨n0, n1, _, _⟩ := cell_of_two GN.out
          refine Sole.wp_region_order [(0, false), (1, false), (2, false), (3, true), (4, true), (5, true), (6, false)] (fun w' => w'.cell? ⟨nb, 0, none⟩ = some (.slice a2 fl.length c2) ∧ w'.cell? ⟨nb, 1, none⟩ = some (.int .i64 (-1))) (by kernel_rfl) (by kernel_rfl) rfl (by kernel_rfl) (by intro _ _ d _ _ h; cases d <;> exact h) (hwe ▸ ⟨n0, n1⟩) ?_; simp only [List.map_cons, List.map_nil, List.getElem?_toArray, List.getElem?_cons_zero, List.getElem?_cons_succ, Option.getD_some]
          rw [hwe]
          clear hwe
          repeat (first | (refine Sole.ro_q (by rfl) (v := ?_) ?_ ?_; rotate_left; (focus (intro w' hSw; (try dsimp only at hSw); go_simp; try with_reducible rfl)); simp only [Act.put, List.setIfInBounds_toArray, List.set_cons_zero, List.set_cons_succ]) | (refine Sole.ro_skip (by rfl) ?_; simp only [Act.put, List.setIfInBounds_toArray, List.set_cons_zero, List.set_cons_succ]))
          (refine Sole.ro_loud (by rfl) (fun K hK => ?_); go_simp)
          have hba := (Below.refl we.heap.size we).alloc (Nat.le_refl _) (.cells #[.string id] 9)
          have hca := cell_of_two (blk_below GN.out hba)
          (refine hK.out _ _ (fun w' => w'.cell? ⟨nb, 0, none⟩ = some (.slice a2 fl.length c2) ∧ w'.cell? ⟨nb, 1, none⟩ = some (.int .i64 (-1))) (.inl fun _ h => h) (⟨hca.1, hca.2.1⟩) ?_; clear hK K; try simp only [Act.put, List.setIfInBounds_toArray, List.set_cons_zero, List.set_cons_succ])
          try repeat (first | (refine Sole.ro_q (by rfl) (v := ?_) ?_ ?_; rotate_left; (focus (intro w' hSw; (try dsimp only at hSw); go_simp; try with_reducible rfl)); simp only [Act.put, List.setIfInBounds_toArray, List.set_cons_zero, List.set_cons_succ]) | (refine Sole.ro_skip (by rfl) ?_; simp only [Act.put, List.setIfInBounds_toArray, List.set_cons_zero, List.set_cons_succ]))
          clear hba hca
          (refine Sole.ro_loud (by rfl) (fun K hK => ?_))
          refine wp_append1u (.tmp 50) (.tmp 52) 22 rfl info_string Tryd.underlying22 rfl (by decide) OQ.out (show w.heap.size + 1 ≤ we.heap.size from Nat.succ_le_of_lt (lt_of_block GD.out)) rfl (by have := HIL.out; have := HKL.out; show (ids.length + 1) * 16 ≤ _; omega) rfl rfl ?_
          intro v7 w7 ho7 hu7
          have OQ7 := Lib.hid (show w7.ownsRow (w.heap.size + 1) 9 1 v7 (ids ++ [id]).length (svs (ids ++ [id])) by rw [svs_appendP, List.length_append]; exact ho7)
          have GD7 := Lib.hid (blk_upd GD.out hu7 (fun e => owns_ne OQ.out GD.out (by decide) e))
          have GN7 := Lib.hid (blk_upd GN.out hu7 (fun e => owns_ne OQ.out GN.out (by decide) e))
          have ON7 := Lib.hid (owns_apart ON.out OQ.out hu7 (by decide))
          have HB7 := Lib.hid (HB.out.trans (hu7.below HB.out.size (fun k hk => Nat.le_of_succ_le (OQ.out.lt k hk).1)))
          clear ho7 hu7 n0 n1 GD GN ON OQ HB OD
          obtain ⟨n0, n1, _, _⟩ := cell_of_two GN7.out
          (refine hK.out _ _ (fun w' => w'.cell? ⟨nb, 0, none⟩ = some (.slice a2 fl.length c2) ∧ w'.cell? ⟨nb, 1, none⟩ = some (.int .i64 (-1))) (.inl fun _ h => h) (⟨n0, n1⟩) ?_; clear hK K; try simp only [Act.put, List.setIfInBounds_toArray, List.set_cons_zero, List.set_cons_succ])
          try repeat (first | (refine Sole.ro_q (by rfl) (v := ?_) ?_ ?_; rotate_left; (focus (intro w' hSw; (try dsimp only at hSw); go_simp; try with_reducible rfl)); simp only [Act.put, List.setIfInBounds_toArray, List.set_cons_zero, List.set_cons_succ]) | (refine Sole.ro_skip (by rfl) ?_; simp only [Act.put, List.setIfInBounds_toArray, List.set_cons_zero, List.set_cons_succ]))
          (refine Sole.ro_loud (by rfl) (fun K hK => ?_))
          refine wp_store_blkS 38 (.tmp 7) (.tmp 49) rfl w.heap.size #[.slice a2 fl.length c2, .int .i64 (-1)] rfl rfl (old := _) GD7.out (by kernel_rfl) rfl (by simp [Value.oneCell']) ?_
          intro w8 gz uz
          have GD8 := Lib.hid gz
          have ON8 := Lib.hid (own_storeK ON7.out uz GD7.out (by decide))
          have OQ8 := Lib.hid (own_storeK OQ7.out uz GD7.out (by decide))
          have HB8 := Lib.hid (below_upd HB7.out uz (Nat.le_refl _) HB7.out.size)
          have GN8 := Lib.hid (blk_upd GN7.out uz (Nat.ne_of_gt HNB.out))
          clear gz uz n0 n1 GN7 GD7 ON7 OQ7 HB7
          obtain ⟨n0, n1, _, _⟩ := cell_of_two GN8.out
          (refine hK.out _ _ (fun w' => w'.cell? ⟨nb, 0, none⟩ = some (.slice a2 fl.length c2) ∧ w'.cell? ⟨nb, 1, none⟩ = some (.int .i64 (-1))) (.inl fun _ h => h) (⟨n0, n1⟩) ?_; clear hK K; try simp only [Act.put, List.setIfInBounds_toArray, List.set_cons_zero, List.set_cons_succ])
          repeat (first | (refine Sole.ro_q (by rfl) (v := ?_) ?_ ?_; rotate_left; (focus (intro w' hSw; (try dsimp only at hSw); go_simp; try with_reducible rfl)); simp only [Act.put, List.setIfInBounds_toArray, List.set_cons_zero, List.set_cons_succ]) | (refine Sole.ro_skip (by rfl) ?_; simp only [Act.put, List.setIfInBounds_toArray, List.set_cons_zero, List.set_cons_succ]))
          refine Sole.ro_nil ?_
          go_wp2_with fail
          exact ⟨⟨k + 1, fl, a2, c2, ids ++ [id], by have := HKL.out; omega, by have := HKL.out; omega, rfl, HS2, GD8, ON8, OQ8, HB8⟩, meas_step (n := 40) _ rfl HKL.out.2⟩
        · have n1 : (er == 0) = false := beq_eq_false_iff_ne.2 he
          have n2 : (er != 0) = true := by rw [bne, n1]; rfl
          have HS2 := Lib.hid (show putsF (z0.take (k + 1)) = (⟨dl, -1⟩, ids) from HSN.out.trans (puts1_no (by rw [HQ.out]; exact he)))
          clear he HSN n0 n1
          go_wp2_with fail
          exact ⟨⟨k + 1, dl, a1, c1, ids, by have := HKL.out; omega, by have := HKL.out; omega, rfl, HS2, GD, OD, OQ, HB⟩, meas_step (n := 40) _ rfl HKL.out.2⟩
      · (refine Twin.ro_loud (by rfl) (fun K hK => ?_); go_simp)
        have hb := (Below.refl wd.heap.size wd).alloc (Nat.le_refl _) (.cells #[.slice none 0 0, .int .i64 0] 38)
        have hgN := heap_alloc_new wd (.cells #[.slice none 0 0, .int .i64 0] 38)
        obtain ⟨w6, hw6⟩ : ∃ x, wd.alloc (.cells #[.slice none 0 0, .int .i64 0] 38) = x := ⟨_, rfl⟩
        obtain ⟨nb, hnb⟩ : ∃ x, x = wd.heap.size := ⟨_, rfl⟩
        have HNB := Lib.hid (show w.heap.size < nb by rw [hnb]; exact lt_of_block GD.out)
        rw [hw6] at hb hgN
        rw [← hnb] at hgN
        have GN := Lib.hid hgN
        replace GD := Lib.hid (blk_below GD.out hb)
        replace OD := Lib.hid (owns_below OD.out hb)
        replace OQ := Lib.hid (owns_below OQ.out hb)
        replace HB := Lib.hid (HB.out.trans (hb.mono HB.out.size))
        clear hb hgN
        (refine hK.out _ _ (fun w' => w'.cell? ⟨w.heap.size, 0, none⟩ = some (.slice a1 dl.length c1) ∧ w'.cell? ⟨w.heap.size, 1, none⟩ = some (.int .i64 (-1)) ∧ w'.cell? ⟨bl, ol + k, none⟩ = some (.string x)) (.inl fun _ h => h) (hw6 ▸ (let h := cell_of_two GD.out; ⟨h.1, h.2.1, HXC.out _ HB.out⟩)) ?_; clear hK K; try simp only [Act.put, List.setIfInBounds_toArray, List.set_cons_zero, List.set_cons_succ])
        rw [hw6]
        try rw [← hnb]
        clear hw6 hnb
        try (repeat (first | (refine Twin.ro_q (by rfl) (v := ?_) ?_ ?_; rotate_left; (focus (intro w' hSw; (try dsimp only at hSw); go_simp; try with_reducible rfl)); simp only [Act.put, List.setIfInBounds_toArray, List.set_cons_zero, List.set_cons_succ]) | (refine Twin.ro_skip (by rfl) ?_; simp only [Act.put, List.setIfInBounds_toArray, List.set_cons_zero, List.set_cons_succ])))
        (refine Twin.ro_loud (by rfl) (fun K hK => ?_); go_simp)
        (with_reducible refine (HP.out w6 HB.out (rdF_owns OD.out)).mono ?_)
        rintro e w5 ⟨v2, rfl, hrd, hb, hnw⟩
        obtain ⟨a2, c2, rfl⟩ := rd_form hrd
        have ON := Lib.hid ((hnw.mono HB.out.size).owned (owns_below OD.out hb) (Nat.le_refl _))
        replace HB := Lib.hid (HB.out.trans (hb.mono HB.out.size))
        replace GD := Lib.hid (blk_below GD.out hb)
        replace OD := Lib.hid (owns_below OD.out hb)
        replace OQ := Lib.hid (owns_below OQ.out hb)
        replace GN := Lib.hid (blk_below GN.out hb)
        clear hb hrd hnw HP
        (refine hK.out _ _ (fun w' => w'.cell? ⟨w.heap.size, 0, none⟩ = some (.slice a1 dl.length c1) ∧ w'.cell? ⟨w.heap.size, 1, none⟩ = some (.int .i64 (-1)) ∧ w'.cell? ⟨bl, ol + k, none⟩ = some (.string x)) (.inl fun _ h => h) ((let h := cell_of_two GD.out; ⟨h.1, h.2.1, HXC.out _ HB.out⟩)) ?_; clear hK K; try simp only [Act.put, List.setIfInBounds_toArray, List.set_cons_zero, List.set_cons_succ])
        try repeat (first | (refine Twin.ro_q (by rfl) (v := ?_) ?_ ?_; rotate_left; (focus (intro w' hSw; (try dsimp only at hSw); go_simp; try with_reducible rfl)); simp only [Act.put, List.setIfInBounds_toArray, List.set_cons_zero, List.set_cons_succ]) | (refine Twin.ro_skip (by rfl) ?_; simp only [Act.put, List.setIfInBounds_toArray, List.set_cons_zero, List.set_cons_succ]))
        (refine Twin.ro_loud (by rfl) (fun K hK => ?_))
        refine wp_store_blkS 38 (.tmp 10) (.tmp 44) rfl nb #[.slice a2 fl.length c2, .int .i64 (-1)] rfl rfl (old := _) GN.out (by kernel_rfl) rfl (by simp [Value.oneCell']) ?_
        intro w9 gz uz
        replace OD := Lib.hid (own_storeK OD.out uz GN.out (by decide))
        replace ON := Lib.hid (own_storeK ON.out uz GN.out (by decide))
        replace OQ := Lib.hid (own_storeK OQ.out uz GN.out (by decide))
        replace HB := Lib.hid (below_upd HB.out uz (Nat.le_of_lt HNB.out) HB.out.size)
        replace GD := Lib.hid (blk_upd GD.out uz (Nat.ne_of_lt HNB.out))
        replace GN := Lib.hid gz
        clear gz uz
        (refine hK.out _ _ (fun w' => w'.cell? ⟨w.heap.size, 0, none⟩ = some (.slice a1 dl.length c1) ∧ w'.cell? ⟨w.heap.size, 1, none⟩ = some (.int .i64 (-1)) ∧ w'.cell? ⟨bl, ol + k, none⟩ = some (.string x)) (.inl fun _ h => h) ((let h := cell_of_two GD.out; ⟨h.1, h.2.1, HXC.out _ HB.out⟩)) ?_; clear hK K; try simp only [Act.put, List.setIfInBounds_toArray, List.set_cons_zero, List.set_cons_succ])
        try repeat (first | (refine Twin.ro_q (by rfl) (v := ?_) ?_ ?_; rotate_left; (focus (intro w' hSw; (try dsimp only at hSw); go_simp; try with_reducible rfl)); simp only [Act.put, List.setIfInBounds_toArray, List.set_cons_zero, List.set_cons_succ]) | (refine Twin.ro_skip (by rfl) ?_; simp only [Act.put, List.setIfInBounds_toArray, List.set_cons_zero, List.set_cons_succ]))
        refine Twin.ro_nil ?_
        obtain ⟨n0, n1, _, _⟩ := cell_of_two GN.out
        by_cases he : er = 0
        · subst he
          have HS2 := Lib.hid (show putsF (z0.take (k + 1)) = (⟨fl, -1⟩, ids ++ [id]) from HSN.out.trans (puts1_ok HQ.out))
          clear HSN
          have hb := (Below.refl w9.heap.size w9).drew
          replace GD := Lib.hid (blk_below GD.out hb)
          replace ON := Lib.hid (owns_below ON.out hb)
          replace OQ := Lib.hid (owns_below OQ.out hb)
          replace GN := Lib.hid (blk_below GN.out hb)
          replace HB := Lib.hid (HB.out.trans (hb.mono HB.out.size))
          clear hb n0 n1
          go_wp2_with fail
          obtain ⟨we, hwe⟩ : ∃ x, w9.drew = x := ⟨_, rfl⟩
          rw [hwe] at HB GD ON OQ GN
          obtain ⟨n0, n1, _, _⟩ := cell_of_two GN.out
          refine Sole.wp_region_order [(0, false), (1, false), (2, false), (3, true), (4, true), (5, true), (6, false)] (fun w' => w'.cell? ⟨nb, 0, none⟩ = some (.slice a2 fl.length c2) ∧ w'.cell? ⟨nb, 1, none⟩ = some (.int .i64 (-1))) (by kernel_rfl) (by kernel_rfl) rfl (by kernel_rfl) (by intro _ _ d _ _ h; cases d <;> exact h) (hwe ▸ ⟨n0, n1⟩) ?_; simp only [List.map_cons, List.map_nil, List.getElem?_toArray, List.getElem?_cons_zero, List.getElem?_cons_succ, Option.getD_some]
          rw [hwe]
          clear hwe
          repeat (first | (refine Sole.ro_q (by rfl) (v := ?_) ?_ ?_; rotate_left; (focus (intro w' hSw; (try dsimp only at hSw); go_simp; try with_reducible rfl)); simp only [Act.put, List.setIfInBounds_toArray, List.set_cons_zero, List.set_cons_succ]) | (refine Sole.ro_skip (by rfl) ?_; simp only [Act.put, List.setIfInBounds_toArray, List.set_cons_zero, List.set_cons_succ]))
          (refine Sole.ro_loud (by rfl) (fun K hK => ?_); go_simp)
          have hba := (Below.refl we.heap.size we).alloc (Nat.le_refl _) (.cells #[.string id] 9)
          have hca := cell_of_two (blk_below GN.out hba)
          (refine hK.out _ _ (fun w' => w'.cell? ⟨nb, 0, none⟩ = some (.slice a2 fl.length c2) ∧ w'.cell? ⟨nb, 1, none⟩ = some (.int .i64 (-1))) (.inl fun _ h => h) (⟨hca.1, hca.2.1⟩) ?_; clear hK K; try simp only [Act.put, List.setIfInBounds_toArray, List.set_cons_zero, List.set_cons_succ])
          try repeat (first | (refine Sole.ro_q (by rfl) (v := ?_) ?_ ?_; rotate_left; (focus (intro w' hSw; (try dsimp only at hSw); go_simp; try with_reducible rfl)); simp only [Act.put, List.setIfInBounds_toArray, List.set_cons_zero, List.set_cons_succ]) | (refine Sole.ro_skip (by rfl) ?_; simp only [Act.put, List.setIfInBounds_toArray, List.set_cons_zero, List.set_cons_succ]))
          clear hba hca
          (refine Sole.ro_loud (by rfl) (fun K hK => ?_))
          refine wp_append1u (.tmp 50) (.tmp 52) 22 rfl info_string Tryd.underlying22 rfl (by decide) OQ.out (show w.heap.size + 1 ≤ we.heap.size from Nat.succ_le_of_lt (lt_of_block GD.out)) rfl (by have := HIL.out; have := HKL.out; show (ids.length + 1) * 16 ≤ _; omega) rfl rfl ?_
          intro v7 w7 ho7 hu7
          have OQ7 := Lib.hid (show w7.ownsRow (w.heap.size + 1) 9 1 v7 (ids ++ [id]).length (svs (ids ++ [id])) by rw [svs_appendP, List.length_append]; exact ho7)
          have GD7 := Lib.hid (blk_upd GD.out hu7 (fun e => owns_ne OQ.out GD.out (by decide) e))
          have GN7 := Lib.hid (blk_upd GN.out hu7 (fun e => owns_ne OQ.out GN.out (by decide) e))
          have ON7 := Lib.hid (owns_apart ON.out OQ.out hu7 (by decide))
          have HB7 := Lib.hid (HB.out.trans (hu7.below HB.out.size (fun k hk => Nat.le_of_succ_le (OQ.out.lt k hk).1)))
          clear ho7 hu7 n0 n1 GD GN ON OQ HB OD
          obtain ⟨n0, n1, _, _⟩ := cell_of_two GN7.out
          (refine hK.out _ _ (fun w' => w'.cell? ⟨nb, 0, none⟩ = some (.slice a2 fl.length c2) ∧ w'.cell? ⟨nb, 1, none⟩ = some (.int .i64 (-1))) (.inl fun _ h => h) (⟨n0, n1⟩) ?_; clear hK K; try simp only [Act.put, List.setIfInBounds_toArray, List.set_cons_zero, List.set_cons_succ])
          try repeat (first | (refine Sole.ro_q (by rfl) (v := ?_) ?_ ?_; rotate_left; (focus (intro w' hSw; (try dsimp only at hSw); go_simp; try with_reducible rfl)); simp only [Act.put, List.setIfInBounds_toArray, List.set_cons_zero, List.set_cons_succ]) | (refine Sole.ro_skip (by rfl) ?_; simp only [Act.put, List.setIfInBounds_toArray, List.set_cons_zero, List.set_cons_succ]))
          (refine Sole.ro_loud (by rfl) (fun K hK => ?_))
          refine wp_store_blkS 38 (.tmp 7) (.tmp 49) rfl w.heap.size #[.slice a2 fl.length c2, .int .i64 (-1)] rfl rfl (old := _) GD7.out (by kernel_rfl) rfl (by simp [Value.oneCell']) ?_
          intro w8 gz uz
          have GD8 := Lib.hid gz
          have ON8 := Lib.hid (own_storeK ON7.out uz GD7.out (by decide))
          have OQ8 := Lib.hid (own_storeK OQ7.out uz GD7.out (by decide))
          have HB8 := Lib.hid (below_upd HB7.out uz (Nat.le_refl _) HB7.out.size)
          have GN8 := Lib.hid (blk_upd GN7.out uz (Nat.ne_of_gt HNB.out))
          clear gz uz n0 n1 GN7 GD7 ON7 OQ7 HB7
          obtain ⟨n0, n1, _, _⟩ := cell_of_two GN8.out
          (refine hK.out _ _ (fun w' => w'.cell? ⟨nb, 0, none⟩ = some (.slice a2 fl.length c2) ∧ w'.cell? ⟨nb, 1, none⟩ = some (.int .i64 (-1))) (.inl fun _ h => h) (⟨n0, n1⟩) ?_; clear hK K; try simp only [Act.put, List.setIfInBounds_toArray, List.set_cons_zero, List.set_cons_succ])
          repeat (first | (refine Sole.ro_q (by rfl) (v := ?_) ?_ ?_; rotate_left; (focus (intro w' hSw; (try dsimp only at hSw); go_simp; try with_reducible rfl)); simp only [Act.put, List.setIfInBounds_toArray, List.set_cons_zero, List.set_cons_succ]) | (refine Sole.ro_skip (by rfl) ?_; simp only [Act.put, List.setIfInBounds_toArray, List.set_cons_zero, List.set_cons_succ]))
          refine Sole.ro_nil ?_
          go_wp2_with fail
          exact ⟨⟨k + 1, fl, a2, c2, ids ++ [id], by have := HKL.out; omega, by have := HKL.out; omega, rfl, HS2, GD8, ON8, OQ8, HB8⟩, meas_step (n := 40) _ rfl HKL.out.2⟩
        · have n1 : (er == 0) = false := beq_eq_false_iff_ne.2 he
          have n2 : (er != 0) = true := by rw [bne, n1]; rfl
          have HS2 := Lib.hid (show putsF (z0.take (k + 1)) = (⟨dl, -1⟩, ids) from HSN.out.trans (puts1_no (by rw [HQ.out]; exact he)))
          clear he HSN n0 n1
          go_wp2_with fail
          exact ⟨⟨k + 1, dl, a1, c1, ids, by have := HKL.out; omega, by have := HKL.out; omega, rfl, HS2, GD, OD, OQ, HB⟩, meas_step (n := 40) _ rfl HKL.out.2⟩
    · by_cases hk3 : k < z0.length
      · have hk80 : ¬ k < 40 := fun h => hk2 ⟨hk3, h⟩
        have kb : decide ((k : Int) < (z0.length : Int)) = true := decide_eq_true (by omega)
        have kb3 : decide (k < z0.length) = true := decide_eq_true hk3
        have kb2 : decide ((k : Int) < 40) = false := decide_eq_false (by omega)
        have kb4 : decide (k < 40) = false := decide_eq_false hk80
        clear hk2 hk3 hk80
        have HI40 := Lib.hid (show ids.length ≤ 40 by have := HIL.out; omega)
        have HIS := Lib.hid (show smalls ids from fun y hy => by have := (puts_law (z0.take k)).2 y (by rw [HPF.out]; exact hy); omega)
        have HC := Lib.hid (stores_any wr (HT.out _ HB.out))
        clear HPF HIL
        go_wp2_with fail
        (with_reducible refine HC.out.mono ?_)
        rintro e ws ⟨rfl, hb⟩
        replace GD := Lib.hid (blk_below GD.out hb)
        replace OD := Lib.hid (owns_below OD.out hb)
        replace OQ := Lib.hid (owns_below OQ.out hb)
        replace HB := Lib.hid (HB.out.trans (hb.mono HB.out.size))
        clear HC hb
        have hb := (Below.refl ws.heap.size ws).drew
        replace GD := Lib.hid (blk_below GD.out hb)
        replace OD := Lib.hid (owns_below OD.out hb)
        replace OQ := Lib.hid (owns_below OQ.out hb)
        replace HB := Lib.hid (HB.out.trans (hb.mono HB.out.size))
        clear hb
        obtain ⟨q1, q2, rfl⟩ := owns_slice OQ.out
        go_wp2_with fail
        obtain ⟨wd, hwd⟩ : ∃ x, ws.drew = x := ⟨_, rfl⟩
        rw [hwd] at HB GD OD OQ
        have HGf := Lib.hid (fun wr (h : Below wd.heap.size wd wr) => blk_below GD.out h)
        have HDf := Lib.hid (fun wr (h : Below wd.heap.size wd wr) => (rdF_owns OD.out).below h)
        have HQf := Lib.hid (fun wr (h : Below wd.heap.size wd wr) => (rdS_owns OQ.out).below h)
        have HBf := Lib.hid (fun wr (h : Below wd.heap.size wd wr) => HB.out.trans (h.mono HB.out.size))
        refine Lone.wp_region_order [(0, false), (1, false), (3, false), (2, true), (4, true), (5, true), (6, false), (7, false), (8, false), (9, false), (10, false)] (fun w' => w'.cell? ⟨w.heap.size, 0, none⟩ = some (.slice a1 dl.length c1) ∧ w'.cell? ⟨w.heap.size, 1, none⟩ = some (.int .i64 (-1))) (by kernel_rfl) (by kernel_rfl) rfl (by kernel_rfl) (by intro _ _ d _ _ h; cases d <;> exact h) (hwd ▸ (let h := cell_of_two GD.out; ⟨h.1, h.2.1⟩)) ?_; simp only [List.map_cons, List.map_nil, List.getElem?_toArray, List.getElem?_cons_zero, List.getElem?_cons_succ, Option.getD_some]
        rw [hwd]
        clear hwd GD OD OQ
        repeat (first | (refine Lone.ro_q (by rfl) (v := ?_) ?_ ?_; rotate_left; (focus (intro w' hSw; (try dsimp only at hSw); go_simp; try with_reducible rfl)); simp only [Act.put, List.setIfInBounds_toArray, List.set_cons_zero, List.set_cons_succ]) | (refine Lone.ro_skip (by rfl) ?_; simp only [Act.put, List.setIfInBounds_toArray, List.set_cons_zero, List.set_cons_succ]))
        (refine Lone.ro_loud (by rfl) (fun K hK => ?_))
        refine wp_append_rdW (w0 := wd) (B := wd.heap.size) (.const (.slice none 0 0)) (.tmp 58) 22 rfl info_string Tryd.underlying22 rfl (by decide) (World.ownsRow_nil _ wd.heap.size _ _) (Below.refl _ _) (Nat.le_refl _) (Nat.le_refl _) (HE.out _ HB.out) svs_one5 (by have := HE16.out; omega) (by have := HE16.out; unfold maxLen; omega) rfl rfl ?_
        intro v2 w2 ho2 hb2
        rw [Nat.zero_add, List.nil_append] at ho2
        have HB2 := Lib.hid hb2
        have HO2 := Lib.hid ho2
        clear ho2 hb2
        (refine hK.out _ _ (fun w' => w'.cell? ⟨w.heap.size, 0, none⟩ = some (.slice a1 dl.length c1) ∧ w'.cell? ⟨w.heap.size, 1, none⟩ = some (.int .i64 (-1))) (.inl fun _ h => h) ((let h := cell_of_two (HGf.out _ HB2.out); ⟨h.1, h.2.1⟩)) ?_; clear hK K; try simp only [Act.put, List.setIfInBounds_toArray, List.set_cons_zero, List.set_cons_succ])
        try repeat (first | (refine Lone.ro_q (by rfl) (v := ?_) ?_ ?_; rotate_left; (focus (intro w' hSw; (try dsimp only at hSw); go_simp; try with_reducible rfl)); simp only [Act.put, List.setIfInBounds_toArray, List.set_cons_zero, List.set_cons_succ]) | (refine Lone.ro_skip (by rfl) ?_; simp only [Act.put, List.setIfInBounds_toArray, List.set_cons_zero, List.set_cons_succ]))
        (refine Lone.ro_loud (by rfl) (fun K hK => ?_))
        refine wp_append_rdW (w0 := wd) (B := wd.heap.size) (.tmp 59) (.tmp 60) 22 rfl info_string Tryd.underlying22 rfl (by decide) HO2.out HB2.out (Nat.le_refl _) HB2.out.size (HQf.out _ HB2.out) svs_one5 (by have := HE16.out; have := HI40.out; omega) (by have := HE16.out; have := HI40.out; unfold maxLen; omega) rfl rfl ?_
        intro v3 w3 ho3 hb3
        rw [← svs_appendP, ← List.length_append] at ho3
        have HB3 := Lib.hid hb3
        have HR3 := Lib.hid (rdS_owns ho3)
        clear ho3 hb3 HO2
        (refine hK.out _ _ (fun w' => w'.cell? ⟨w.heap.size, 0, none⟩ = some (.slice a1 dl.length c1) ∧ w'.cell? ⟨w.heap.size, 1, none⟩ = some (.int .i64 (-1))) (.inl fun _ h => h) ((let h := cell_of_two (HGf.out _ HB3.out); ⟨h.1, h.2.1⟩)) ?_; clear hK K; try simp only [Act.put, List.setIfInBounds_toArray, List.set_cons_zero, List.set_cons_succ])
        try repeat (first | (refine Lone.ro_q (by rfl) (v := ?_) ?_ ?_; rotate_left; (focus (intro w' hSw; (try dsimp only at hSw); go_simp; try with_reducible rfl)); simp only [Act.put, List.setIfInBounds_toArray, List.set_cons_zero, List.set_cons_succ]) | (refine Lone.ro_skip (by rfl) ?_; simp only [Act.put, List.setIfInBounds_toArray, List.set_cons_zero, List.set_cons_succ]))
        have hcl := closure_any dl (-1) (.slice a1 dl.length c1) w3 (HDf.out _ HB3.out) (z1 ++ ids) v3 HR3.out (fun y hy => (List.mem_append.1 hy).elim (HES.out y) (HIS.out y)) (by have := HE16.out; have := HI40.out; rw [List.length_append]; omega) (HT.out _ (HBf.out _ HB3.out))
        obtain ⟨⟨all, ee⟩, hq⟩ : ∃ q, q = reachF (getF ⟨dl, -1⟩) (z1 ++ ids) := ⟨_, rfl⟩
        rw [← hq] at hcl
        have HQ := Lib.hid hq.symm
        have HCL := Lib.hid hcl
        clear hcl hq
        (refine Lone.ro_loud (by rfl) (fun K hK => ?_); go_simp)
        (with_reducible refine HCL.out.mono ?_)
        rintro e X ⟨va, rfl, hra, hb⟩
        have HX := Lib.hid (HB3.out.trans (hb.mono HB3.out.size))
        obtain ⟨l1, l2, rfl⟩ := rd_form hra
        (refine hK.out _ _ (fun w' => w'.cell? ⟨w.heap.size, 0, none⟩ = some (.slice a1 dl.length c1) ∧ w'.cell? ⟨w.heap.size, 1, none⟩ = some (.int .i64 (-1))) (.inl fun _ h => h) ((let h := cell_of_two (HGf.out _ HX.out); ⟨h.1, h.2.1⟩)) ?_; clear hK K; try simp only [Act.put, List.setIfInBounds_toArray, List.set_cons_zero, List.set_cons_succ])
        repeat (first | (refine Lone.ro_q (by rfl) (v := ?_) ?_ ?_; rotate_left; (focus (intro w' hSw; (try dsimp only at hSw); go_simp; try with_reducible rfl)); simp only [Act.put, List.setIfInBounds_toArray, List.set_cons_zero, List.set_cons_succ]) | (refine Lone.ro_skip (by rfl) ?_; simp only [Act.put, List.setIfInBounds_toArray, List.set_cons_zero, List.set_cons_succ]))
        refine Lone.ro_nil ?_
        have HXB := Lib.hid (HBf.out _ HX.out)
        have GD := Lib.hid (HGf.out _ HX.out)
        have HRF := Lib.hid (fun wr (h : Below X.heap.size X wr) => (HDf.out _ HX.out).below h)
        have HID := Lib.hid (fun wr (h : Below X.heap.size X wr) => (HQf.out _ HX.out).below h)
        have HALL := Lib.hid (fun wr (h : Below X.heap.size X wr) => hra.below h)
        have HGD := Lib.hid (fun wr (h : Below X.heap.size X wr) => blk_below GD.out h)
        have HTX := Lib.hid (fun wr (h : Below X.heap.size X wr) => HT.out wr (HXB.out.trans (h.mono HXB.out.size)))
        have HB0 := Lib.hid (Below.refl X.heap.size X)
        clear hra hb HCL HGf HDf HQf HBf HB2 HB3 HR3 HB HX GD
        by_cases he : ee = 0
        · subst he
          obtain ⟨hcl, hin, hsrt⟩ := reach_ok HQ.out
          have HCL := Lib.hid hcl
          have HIN0 := Lib.hid hin
          have HSRT := Lib.hid hsrt
          have HAL := Lib.hid (show all.length ≤ 400 from hcl.len)
          clear hcl hin hsrt
          go_wp2_with fail
          go_loopw [15] (fun i wr => ∃ j : Nat, j ≤ all.length ∧ i = .int .i64 (j : Int) ∧ Hid (Below X.heap.size X wr)) (fun i _ => all.length - (intOf i).toNat)
          case atStart => exact ⟨0, Nat.zero_le _, rfl, HB0⟩
          case round =>
            clear HB0
            obtain ⟨j, hj, rfl, HB1⟩ := hrel
            by_cases hjl : j < all.length
            · have HJL := Lib.hid hjl
              have kb : decide ((j : Int) < (all.length : Int)) = true := decide_eq_true (by omega)
              have ki : (j : Int) < (all.length : Int) := by omega
              have kn : j < all.length := hjl
              have kz : (0 : Int) ≤ (j : Int) := by omega
              have k4 : (j : Int) < 400 := by have := HAL.out; omega
              obtain ⟨bl, ol, hbl, _, _⟩ := rdS_at' (HALL.out _ HB1.out) (by omega)
              subst hbl
              obtain ⟨x, hx⟩ : ∃ x, x = all.getD j noB := ⟨_, rfl⟩
              have HXC := Lib.hid (fun wr (h : Below X.heap.size X wr) => ((rdS_cl (HALL.out wr h) hjl).trans (by rw [← hx]) : wr.cell? ⟨bl, ol + j, none⟩ = some (.string x)))
              have HIN := Lib.hid (show x ∈ all by rw [hx, List.getD, List.getElem?_eq_getElem hjl]; exact List.getElem_mem hjl)
              obtain ⟨hg0, hd0⟩ := HCL.out.ok x HIN.out
              have hlk := HCL.out.links x HIN.out
              have hget := fun wr (h : Below X.heap.size X wr) => sget_any dl (-1) (.slice a1 dl.length c1) wr (HRF.out wr h) x (by obtain ⟨q, hq⟩ : ∃ q, getF ⟨dl, -1⟩ x = (q, 0) := ⟨_, Prod.ext rfl hg0⟩; have := (get_sum hq).2.1; omega) (HTX.out wr h)
              have hsz := getF_small ⟨dl, -1⟩ x
              obtain ⟨⟨s, es⟩, hq⟩ : ∃ q, q = getF ⟨dl, -1⟩ x := ⟨_, rfl⟩
              rw [← hq] at hget hg0 hd0 hlk hsz
              obtain rfl : es = 0 := hg0
              obtain ⟨⟨o, ed⟩, hdq⟩ : ∃ q, q = decodeF s := ⟨_, rfl⟩
              dsimp only at hd0 hlk hsz
              rw [← hdq] at hd0 hlk
              obtain rfl : ed = 0 := hd0
              dsimp only at hlk
              have HGET := Lib.hid hget
              have HSZs := Lib.hid hsz
              have HLK := Lib.hid hlk
              have HDQ := Lib.hid hdq.symm
              have hgo := goodF_good (decode_ok hdq.symm).1
              have HEL := Lib.hid (And.intro hgo.ents hgo.pars)
              have HLL := Lib.hid (links_good hgo).1
              have HXE := Lib.hid hx
              clear hget hsz hlk hdq hgo hq hjl hx
              have hb := (Below.refl wr.heap.size wr).drew
              replace HB1 := Lib.hid (HB1.out.trans (hb.mono HB1.out.size))
              clear hb
              go_wp2_with fail
              obtain ⟨wd, hwd⟩ : ∃ x, wr.drew = x := ⟨_, rfl⟩
              rw [hwd] at HB1
              refine Lone.wp_region_order [(0, false), (1, false), (2, false), (3, false), (4, false), (5, true), (6, false), (7, false), (8, false), (9, false), (10, false)] (fun w' => w'.cell? ⟨w.heap.size, 0, none⟩ = some (.slice a1 dl.length c1) ∧ w'.cell? ⟨w.heap.size, 1, none⟩ = some (.int .i64 (-1)) ∧ w'.cell? ⟨bl, ol + j, none⟩ = some (.string x)) (by kernel_rfl) (by kernel_rfl) rfl (by kernel_rfl) (by intro _ _ d _ _ h; cases d <;> exact h) (hwd ▸ (let h := cell_of_two (HGD.out _ HB1.out); ⟨h.1, h.2.1, HXC.out _ HB1.out⟩)) ?_; simp only [List.map_cons, List.map_nil, List.getElem?_toArray, List.getElem?_cons_zero, List.getElem?_cons_succ, Option.getD_some]
              rw [hwd]
              clear hwd
              repeat (first | (refine Lone.ro_q (by rfl) (v := ?_) ?_ ?_; rotate_left; (focus (intro w' hSw; (try dsimp only at hSw); go_simp; try with_reducible rfl)); simp only [Act.put, List.setIfInBounds_toArray, List.set_cons_zero, List.set_cons_succ]) | (refine Lone.ro_skip (by rfl) ?_; simp only [Act.put, List.setIfInBounds_toArray, List.set_cons_zero, List.set_cons_succ]))
              (refine Lone.ro_loud (by rfl) (fun K hK => ?_); go_simp)
              (with_reducible refine (HGET.out _ HB1.out).mono ?_)
              rintro e w3 ⟨rfl, hb⟩
              have HB3 := Lib.hid (HB1.out.trans (hb.mono HB1.out.size))
              clear hb HGET
              (refine hK.out _ _ (fun w' => w'.cell? ⟨w.heap.size, 0, none⟩ = some (.slice a1 dl.length c1) ∧ w'.cell? ⟨w.heap.size, 1, none⟩ = some (.int .i64 (-1)) ∧ w'.cell? ⟨bl, ol + j, none⟩ = some (.string x)) (.inl fun _ h => h) ((let h := cell_of_two (HGD.out _ HB3.out); ⟨h.1, h.2.1, HXC.out _ HB3.out⟩)) ?_; clear hK K; try simp only [Act.put, List.setIfInBounds_toArray, List.set_cons_zero, List.set_cons_succ])
              repeat (first | (refine Lone.ro_q (by rfl) (v := ?_) ?_ ?_; rotate_left; (focus (intro w' hSw; (try dsimp only at hSw); go_simp; try with_reducible rfl)); simp only [Act.put, List.setIfInBounds_toArray, List.set_cons_zero, List.set_cons_succ]) | (refine Lone.ro_skip (by rfl) ?_; simp only [Act.put, List.setIfInBounds_toArray, List.set_cons_zero, List.set_cons_succ]))
              refine Lone.ro_nil ?_
              have hdec := decode_any s w3 (by have := HSZs.out; omega)
              rw [HDQ.out] at hdec
              have HDEC := Lib.hid hdec
              clear hdec
              go_wp2_with fail
              (with_reducible refine HDEC.out.mono ?_)
              rintro e4 w4 ⟨ve, vp, rfl, re, rs, hb⟩
              have HB4 := Lib.hid (HB3.out.trans (hb.mono HB3.out.size))
              have RP4 := Lib.hid rs
              have RE4 := Lib.hid re
              obtain ⟨C, hC⟩ : ∃ C : Array Value, C = (objC o ve vp).toArray := ⟨_, rfl⟩
              have hsz : C.size = 9 := by rw [hC]; rfl
              have hone : C.all (·.oneCell') = true := by rw [hC]; exact objC_one re rs
              rw [← hC]
              have HCC := Lib.hid hC
              clear hC re rs hb HDEC
              by_cases hj0 : 0 < j
              · have HJ0 := Lib.hid hj0
                have kg : decide ((0 : Int) < (j : Int)) = true := decide_eq_true (by omega)
                have kg2 : decide (0 < j) = true := decide_eq_true hj0
                obtain ⟨m, hm⟩ : ∃ m, m = j - 1 := ⟨_, rfl⟩
                have hw : IntKind.i64.wrap ((j : Int) - 1) = (m : Int) := by rw [IntKind.wrap_i64]; omega
                have hmz : (0 : Int) ≤ (m : Int) := by omega
                have hmi : (m : Int) < (all.length : Int) := by omega
                have hml : m < all.length := by omega
                obtain ⟨y, hy⟩ : ∃ y, y = all.getD m noB := ⟨_, rfl⟩
                have HYC := Lib.hid (fun wr (h : Below X.heap.size X wr) => ((rdS_cl (HALL.out wr h) hml).trans (by rw [← hy]) : wr.cell? ⟨bl, ol + m, none⟩ = some (.string y)))
                have hlt : Op.bytesLess y.toList x.toList = true := by have := List.pairwise_iff_getElem.1 HSRT.out m j hml kn (by omega); rw [hy, HXE.out, List.getD, List.getD, List.getElem?_eq_getElem hml, List.getElem?_eq_getElem kn]; exact this
                clear hy hm hj0
                go_wp2_with (refine wpList_store_blk (by rfl) 54 (.tmp 18) (.tmp 88) rfl w4.heap.size C rfl rfl (old := _) (heap_alloc_new _ _) (by rw [hsz]; exact info_ob) (by rw [hsz]; rfl) hone ?_; intro w5 gy uy; have hbz := below_upd ((Below.refl w4.heap.size w4).alloc (Nat.le_refl _) _) uy (Nat.le_refl _) (by simp); have HB5 := Lib.hid (HB4.out.trans (hbz.mono HB4.out.size)); have RE5 := Lib.hid (rdRow.below RE4.out hbz); have RP5 := Lib.hid (RP4.out.below hbz); have HG5 := Lib.hid gy; clear gy uy hbz)
                obtain ⟨ob, hob⟩ : ∃ x, x = w4.heap.size := ⟨_, rfl⟩
                rw [← hob] at HG5
                try rw [← hob]
                clear hob
                have hb := (Below.refl w5.heap.size w5).drew
                replace HB5 := Lib.hid (HB5.out.trans (hb.mono HB5.out.size))
                have HG6 := Lib.hid (blk_below HG5.out hb)
                have RE6 := Lib.hid (rdRow.below RE5.out hb)
                have RP6 := Lib.hid (RP5.out.below hb)
                clear hb HG5 RE5 RP5
                obtain ⟨w6, hwd⟩ : ∃ x, w5.drew = x := ⟨_, rfl⟩
                rw [hwd] at HB5 HG6 RE6 RP6
                refine Lone.wp_region_order [(0, false), (1, false), (2, false), (3, false), (4, false), (5, false), (6, false), (7, false), (8, false), (9, false), (10, false), (11, false), (12, false), (13, false), (14, false), (15, false), (16, false), (17, false), (18, false), (19, false), (20, false), (21, false)] (fun w' => w'.cell? ⟨bl, ol + j, none⟩ = some (.string x) ∧ w'.cell? ⟨bl, ol + m, none⟩ = some (.string y)) (by kernel_rfl) (by kernel_rfl) rfl (by kernel_rfl) (by intro _ _ d _ _ h; cases d <;> exact h) (hwd ▸ (⟨HXC.out _ HB5.out, HYC.out _ HB5.out⟩)) ?_; simp only [List.map_cons, List.map_nil, List.getElem?_toArray, List.getElem?_cons_zero, List.getElem?_cons_succ, Option.getD_some]
                rw [hwd]
                clear hwd
                repeat (first | (refine Lone.ro_q (by rfl) (v := ?_) ?_ ?_; rotate_left; (focus (intro w' hSw; (try dsimp only at hSw); go_simp; try with_reducible rfl)); simp only [Act.put, List.setIfInBounds_toArray, List.set_cons_zero, List.set_cons_succ]) | (refine Lone.ro_skip (by rfl) ?_; simp only [Act.put, List.setIfInBounds_toArray, List.set_cons_zero, List.set_cons_succ]))
                refine Lone.ro_nil ?_
                have HB6 := HB5
                clear HB5
                go_wp2_with (refine wpList_load_blk (by rfl) 54 (.tmp 18) rfl ob rfl (.agg C) rfl HG6.out Tryd.underlying54 rfl (by rw [hsz]; exact info_ob) ?_)
                have hlk := links_any o ve vp w6 RE6.out RP6.out HEL.out
                rw [← HCC.out] at hlk
                have HC := Lib.hid hlk
                clear hlk
                (with_reducible refine HC.out.mono ?_)
                rintro e7 w7 ⟨v7, rfl, ho7, hb⟩
                have HB7 := Lib.hid (HB6.out.trans (hb.mono HB6.out.size))
                have RL7 := Lib.hid (rdS_owns ho7)
                obtain ⟨m1, m2, rfl⟩ := rd_form RL7.out
                clear HC ho7 hb
                obtain ⟨L, hL⟩ : ∃ L, L = linksF o := ⟨_, rfl⟩
                rw [← hL] at RL7 HLK HLL
                try rw [← hL]
                clear hL
                go_wp2_with fail
                go_loopw [115] (fun i wq => ∃ q : Nat, q ≤ L.length ∧ i = .int .i64 (q : Int) ∧ wq = w7) (fun i _ => L.length - (intOf i).toNat)
                case atStart => exact ⟨0, Nat.zero_le _, rfl, rfl⟩
                case round =>
                  obtain ⟨q, hq, rfl, hwr⟩ := hrel
                  subst hwr
                  by_cases hql : q < L.length
                  · have HQL := Lib.hid hql
                    have kb : decide ((q : Int) < (L.length : Int)) = true := decide_eq_true (by omega)
                    have ki : (q : Int) < (L.length : Int) := by omega
                    have kz : (0 : Int) ≤ (q : Int) := by omega
                    have kl := HLL.out
                    obtain ⟨bq, oq, hbq, _, hcq⟩ := rdS_at' (RL7.out) (by omega)
                    subst hbq
                    have e0 := hcq q hql
                    obtain ⟨y, hy⟩ : ∃ y, y = L.getD q noB := ⟨_, rfl⟩
                    rw [← hy] at e0
                    have HIN := Lib.hid (show y ∈ L by rw [hy, List.getD, List.getElem?_eq_getElem hql]; exact List.getElem_mem hql)
                    have hwt := within_any all y _ wr (HALL.out _ HB7.out)
                    rw [hasB_iff.2 (HLK.out y HIN.out)] at hwt
                    have HC := Lib.hid hwt
                    clear hwt hcq hy hql
                    go_wp2_with fail
                    (with_reducible refine HC.out.mono ?_)
                    rintro e wz ⟨rfl, rfl⟩
                    clear HC
                    go_wp2_with fail
                    exact ⟨⟨q + 1, HQL.out, rfl, trivial⟩, meas_step (n := L.length) _ rfl HQL.out⟩
                  · have kb : decide ((q : Int) < (L.length : Int)) = false := decide_eq_false (by omega)
                    have kb2 : decide (q < L.length) = false := decide_eq_false hql
                    clear hql
                    go_wp2_with fail
                    exact ⟨⟨j + 1, HJL.out, rfl, HB7⟩, meas_step (n := all.length) _ rfl HJL.out⟩
              · have kg : decide ((0 : Int) < (j : Int)) = false := decide_eq_false (by omega)
                have kg2 : decide (0 < j) = false := decide_eq_false hj0
                clear hj0
                go_wp2_with (refine wpList_store_blk (by rfl) 54 (.tmp 18) (.tmp 88) rfl w4.heap.size C rfl rfl (old := _) (heap_alloc_new _ _) (by rw [hsz]; exact info_ob) (by rw [hsz]; rfl) hone ?_; intro w5 gy uy; have hbz := below_upd ((Below.refl w4.heap.size w4).alloc (Nat.le_refl _) _) uy (Nat.le_refl _) (by simp); have HB5 := Lib.hid (HB4.out.trans (hbz.mono HB4.out.size)); have RE5 := Lib.hid (rdRow.below RE4.out hbz); have RP5 := Lib.hid (RP4.out.below hbz); have HG5 := Lib.hid gy; clear gy uy hbz)
                obtain ⟨ob, hob⟩ : ∃ x, x = w4.heap.size := ⟨_, rfl⟩
                rw [← hob] at HG5
                try rw [← hob]
                clear hob
                have hb := (Below.refl w5.heap.size w5).drew
                replace HB5 := Lib.hid (HB5.out.trans (hb.mono HB5.out.size))
                have HG6 := Lib.hid (blk_below HG5.out hb)
                have RE6 := Lib.hid (rdRow.below RE5.out hb)
                have RP6 := Lib.hid (RP5.out.below hb)
                clear hb HG5 RE5 RP5
                obtain ⟨w6, hwd⟩ : ∃ x, w5.drew = x := ⟨_, rfl⟩
                rw [hwd] at HB5 HG6 RE6 RP6
                refine Lone.wp_region_order [(0, false), (1, false), (2, false), (3, false), (4, false), (5, false), (6, false), (7, false), (8, false), (9, false), (10, false), (11, false), (12, false), (13, false), (14, false), (15, false), (16, false), (17, false), (18, false), (19, false), (20, false), (21, false)] (fun w' => w'.cell? ⟨bl, ol + j, none⟩ = some (.string x)) (by kernel_rfl) (by kernel_rfl) rfl (by kernel_rfl) (by intro _ _ d _ _ h; cases d <;> exact h) (hwd ▸ (HXC.out _ HB5.out)) ?_; simp only [List.map_cons, List.map_nil, List.getElem?_toArray, List.getElem?_cons_zero, List.getElem?_cons_succ, Option.getD_some]
                rw [hwd]
                clear hwd
                repeat (first | (refine Lone.ro_q (by rfl) (v := ?_) ?_ ?_; rotate_left; (focus (intro w' hSw; (try dsimp only at hSw); go_simp; try with_reducible rfl)); simp only [Act.put, List.setIfInBounds_toArray, List.set_cons_zero, List.set_cons_succ]) | (refine Lone.ro_skip (by rfl) ?_; simp only [Act.put, List.setIfInBounds_toArray, List.set_cons_zero, List.set_cons_succ]))
                refine Lone.ro_nil ?_
                have HB6 := HB5
                clear HB5
                go_wp2_with (refine wpList_load_blk (by rfl) 54 (.tmp 18) rfl ob rfl (.agg C) rfl HG6.out Tryd.underlying54 rfl (by rw [hsz]; exact info_ob) ?_)
                have hlk := links_any o ve vp w6 RE6.out RP6.out HEL.out
                rw [← HCC.out] at hlk
                have HC := Lib.hid hlk
                clear hlk
                (with_reducible refine HC.out.mono ?_)
                rintro e7 w7 ⟨v7, rfl, ho7, hb⟩
                have HB7 := Lib.hid (HB6.out.trans (hb.mono HB6.out.size))
                have RL7 := Lib.hid (rdS_owns ho7)
                obtain ⟨m1, m2, rfl⟩ := rd_form RL7.out
                clear HC ho7 hb
                obtain ⟨L, hL⟩ : ∃ L, L = linksF o := ⟨_, rfl⟩
                rw [← hL] at RL7 HLK HLL
                try rw [← hL]
                clear hL
                go_wp2_with fail
                go_loopw [115] (fun i wq => ∃ q : Nat, q ≤ L.length ∧ i = .int .i64 (q : Int) ∧ wq = w7) (fun i _ => L.length - (intOf i).toNat)
                case atStart => exact ⟨0, Nat.zero_le _, rfl, rfl⟩
                case round =>
                  obtain ⟨q, hq, rfl, hwr⟩ := hrel
                  subst hwr
                  by_cases hql : q < L.length
                  · have HQL := Lib.hid hql
                    have kb : decide ((q : Int) < (L.length : Int)) = true := decide_eq_true (by omega)
                    have ki : (q : Int) < (L.length : Int) := by omega
                    have kz : (0 : Int) ≤ (q : Int) := by omega
                    have kl := HLL.out
                    obtain ⟨bq, oq, hbq, _, hcq⟩ := rdS_at' (RL7.out) (by omega)
                    subst hbq
                    have e0 := hcq q hql
                    obtain ⟨y, hy⟩ : ∃ y, y = L.getD q noB := ⟨_, rfl⟩
                    rw [← hy] at e0
                    have HIN := Lib.hid (show y ∈ L by rw [hy, List.getD, List.getElem?_eq_getElem hql]; exact List.getElem_mem hql)
                    have hwt := within_any all y _ wr (HALL.out _ HB7.out)
                    rw [hasB_iff.2 (HLK.out y HIN.out)] at hwt
                    have HC := Lib.hid hwt
                    clear hwt hcq hy hql
                    go_wp2_with fail
                    (with_reducible refine HC.out.mono ?_)
                    rintro e wz ⟨rfl, rfl⟩
                    clear HC
                    go_wp2_with fail
                    exact ⟨⟨q + 1, HQL.out, rfl, trivial⟩, meas_step (n := L.length) _ rfl HQL.out⟩
                  · have kb : decide ((q : Int) < (L.length : Int)) = false := decide_eq_false (by omega)
                    have kb2 : decide (q < L.length) = false := decide_eq_false hql
                    clear hql
                    go_wp2_with fail
                    exact ⟨⟨j + 1, HJL.out, rfl, HB7⟩, meas_step (n := all.length) _ rfl HJL.out⟩
            · have kb : decide ((j : Int) < (all.length : Int)) = false := decide_eq_false (by omega)
              have kb2 : decide (j < all.length) = false := decide_eq_false hjl
              clear hjl
              go_wp2_with fail
              go_loopw [22] (fun i wq => ∃ q : Nat, q ≤ ids.length ∧ i = .int .i64 (q : Int) ∧ wq = wr) (fun i _ => ids.length - (intOf i).toNat)
              case atStart => exact ⟨0, Nat.zero_le _, rfl, rfl⟩
              case round =>
                obtain ⟨q, hq, rfl, hwr⟩ := hrel
                subst hwr
                by_cases hql : q < ids.length
                · have HQL := Lib.hid hql
                  have kb : decide ((q : Int) < (ids.length : Int)) = true := decide_eq_true (by omega)
                  have ki : (q : Int) < (ids.length : Int) := by omega
                  have kz : (0 : Int) ≤ (q : Int) := by omega
                  have kl := HI40.out
                  obtain ⟨bq, oq, hbq, _, hcq⟩ := rdS_at' (HID.out _ HB1.out) (by omega)
                  subst hbq
                  have e0 := hcq q hql
                  obtain ⟨y, hy⟩ : ∃ y, y = ids.getD q noB := ⟨_, rfl⟩
                  rw [← hy] at e0
                  have HIN := Lib.hid (show y ∈ ids by rw [hy, List.getD, List.getElem?_eq_getElem hql]; exact List.getElem_mem hql)
                  have hwt := within_any all y _ wr (HALL.out _ HB1.out)
                  rw [hasB_iff.2 ((fun (y : ByteArray) (hy : y ∈ ids) => HIN0.out y (List.mem_append.2 (.inr hy))) y HIN.out)] at hwt
                  have HC := Lib.hid hwt
                  clear hwt hcq hy hql
                  go_wp2_with fail
                  (with_reducible refine HC.out.mono ?_)
                  rintro e wz ⟨rfl, rfl⟩
                  clear HC
                  go_wp2_with fail
                  exact ⟨⟨q + 1, HQL.out, rfl, trivial⟩, meas_step (n := ids.length) _ rfl HQL.out⟩
                · have kb : decide ((q : Int) < (ids.length : Int)) = false := decide_eq_false (by omega)
                  have kb2 : decide (q < ids.length) = false := decide_eq_false hql
                  clear hql
                  obtain ⟨rb, hrb⟩ : ∃ rb, rb = hasB all root := ⟨_, rfl⟩
                  have hwt := within_any all root _ wr (HALL.out _ HB1.out)
                  rw [← hrb] at hwt
                  have HC := Lib.hid hwt
                  have HRB := Lib.hid hrb
                  clear hwt hrb
                  go_wp2_with fail
                  (with_reducible refine HC.out.mono ?_)
                  rintro e wz ⟨rfl, rfl⟩
                  clear HC
                  cases rb with
                  | false =>
                    go_wp2_with fail
                    go_ret
                    exact ⟨rfl, HXB.out.trans (HB1.out.mono HXB.out.size)⟩
                  | true =>
                    obtain ⟨sm, hsm, hsub⟩ := reach_in HCL.out (ids := [root]) (fun y hy => by rw [List.mem_singleton.1 hy]; exact hasB_iff.1 HRB.out.symm)
                    obtain ⟨hcl2, hin2, _⟩ := reach_ok hsm
                    have HSUB := Lib.hid hsub
                    have HRIN := Lib.hid (hin2 root (by simp))
                    have HSL := Lib.hid (show sm.length ≤ 400 from hcl2.len)
                    have hbz := (Below.refl wz.heap.size wz).alloc (Nat.le_refl _) (.cells #[.string root] 9)
                    have HBz := Lib.hid (HB1.out.trans (hbz.mono HB1.out.size))
                    have hcl3 := closure_any dl (-1) (.slice a1 dl.length c1) _ (HRF.out _ HBz.out) [root] _ (rdS_owns (owns_new wz root)) (fun y hy => by rw [List.mem_singleton.1 hy]; have := HFR.out; omega) (by simp) (HTX.out _ HBz.out)
                    rw [hsm] at hcl3
                    have HC := Lib.hid hcl3
                    clear hcl3 hsm hsub hcl2 hin2 hbz
                    obtain ⟨k0, k1, k2, k3⟩ := cell_of_two (HGD.out _ HB1.out)
                    go_wp2_with fail
                    clear k0 k1 k2 k3
                    (with_reducible refine HC.out.mono ?_)
                    rintro e w9 ⟨vs, rfl, hrs, hb⟩
                    have HB9 := Lib.hid (HBz.out.trans (hb.mono HBz.out.size))
                    obtain ⟨s1, s2, rfl⟩ := rd_form hrs
                    have HRS := Lib.hid hrs
                    clear HC hb hrs
                    go_wp2_with fail
                    go_loopw [25] (fun i wq => ∃ q : Nat, q ≤ sm.length ∧ i = .int .i64 (q : Int) ∧ wq = w9) (fun i _ => sm.length - (intOf i).toNat)
                    case atStart => exact ⟨0, Nat.zero_le _, rfl, rfl⟩
                    case round =>
                      obtain ⟨q, hq, rfl, hwr⟩ := hrel
                      subst hwr
                      by_cases hql : q < sm.length
                      · have HQL := Lib.hid hql
                        have kb : decide ((q : Int) < (sm.length : Int)) = true := decide_eq_true (by omega)
                        have ki : (q : Int) < (sm.length : Int) := by omega
                        have kz : (0 : Int) ≤ (q : Int) := by omega
                        have kl := HSL.out
                        obtain ⟨bq, oq, hbq, _, hcq⟩ := rdS_at' (HRS.out) (by omega)
                        subst hbq
                        have e0 := hcq q hql
                        obtain ⟨y, hy⟩ : ∃ y, y = sm.getD q noB := ⟨_, rfl⟩
                        rw [← hy] at e0
                        have HIN := Lib.hid (show y ∈ sm by rw [hy, List.getD, List.getElem?_eq_getElem hql]; exact List.getElem_mem hql)
                        have hwt := within_any all y _ wr (HALL.out _ HB9.out)
                        rw [hasB_iff.2 (HSUB.out y HIN.out)] at hwt
                        have HC := Lib.hid hwt
                        clear hwt hcq hy hql
                        go_wp2_with fail
                        (with_reducible refine HC.out.mono ?_)
                        rintro e wz ⟨rfl, rfl⟩
                        clear HC
                        go_wp2_with fail
                        exact ⟨⟨q + 1, HQL.out, rfl, trivial⟩, meas_step (n := sm.length) _ rfl HQL.out⟩
                      · have kb : decide ((q : Int) < (sm.length : Int)) = false := decide_eq_false (by omega)
                        have kb2 : decide (q < sm.length) = false := decide_eq_false hql
                        clear hql
                        have hwt := within_any sm root _ wr HRS.out
                        rw [hasB_iff.2 HRIN.out] at hwt
                        have HC := Lib.hid hwt
                        clear hwt
                        go_wp2_with fail
                        (with_reducible refine HC.out.mono ?_)
                        rintro e wz ⟨rfl, rfl⟩
                        clear HC
                        go_wp2_with fail
                        go_ret
                        exact ⟨rfl, HXB.out.trans (HB9.out.mono HXB.out.size)⟩
        · have n1 : (ee == 0) = false := beq_eq_false_iff_ne.2 he
          have n2 : (ee != 0) = true := by rw [bne, n1]; rfl
          have hnil := reach_bad (g := getF ⟨dl, -1⟩) (ids := z1 ++ ids) (by rw [HQ.out]; exact he)
          rw [HQ.out] at hnil
          dsimp only at hnil
          subst hnil
          clear he
          go_wp2_with fail
          go_ret
          exact ⟨rfl, HXB.out.trans (HB0.out.mono HXB.out.size)⟩
      · have kb : decide ((k : Int) < (z0.length : Int)) = false := decide_eq_false (by omega)
        have kb3 : decide (k < z0.length) = false := decide_eq_false hk3
        clear hk2 hk3
        have HI40 := Lib.hid (show ids.length ≤ 40 by have := HIL.out; omega)
        have HIS := Lib.hid (show smalls ids from fun y hy => by have := (puts_law (z0.take k)).2 y (by rw [HPF.out]; exact hy); omega)
        have HC := Lib.hid (stores_any wr (HT.out _ HB.out))
        clear HPF HIL
        go_wp2_with fail
        (with_reducible refine HC.out.mono ?_)
        rintro e ws ⟨rfl, hb⟩
        replace GD := Lib.hid (blk_below GD.out hb)
        replace OD := Lib.hid (owns_below OD.out hb)
        replace OQ := Lib.hid (owns_below OQ.out hb)
        replace HB := Lib.hid (HB.out.trans (hb.mono HB.out.size))
        clear HC hb
        have hb := (Below.refl ws.heap.size ws).drew
        replace GD := Lib.hid (blk_below GD.out hb)
        replace OD := Lib.hid (owns_below OD.out hb)
        replace OQ := Lib.hid (owns_below OQ.out hb)
        replace HB := Lib.hid (HB.out.trans (hb.mono HB.out.size))
        clear hb
        obtain ⟨q1, q2, rfl⟩ := owns_slice OQ.out
        go_wp2_with fail
        obtain ⟨wd, hwd⟩ : ∃ x, ws.drew = x := ⟨_, rfl⟩
        rw [hwd] at HB GD OD OQ
        have HGf := Lib.hid (fun wr (h : Below wd.heap.size wd wr) => blk_below GD.out h)
        have HDf := Lib.hid (fun wr (h : Below wd.heap.size wd wr) => (rdF_owns OD.out).below h)
        have HQf := Lib.hid (fun wr (h : Below wd.heap.size wd wr) => (rdS_owns OQ.out).below h)
        have HBf := Lib.hid (fun wr (h : Below wd.heap.size wd wr) => HB.out.trans (h.mono HB.out.size))
        refine Lone.wp_region_order [(0, false), (1, false), (3, false), (2, true), (4, true), (5, true), (6, false), (7, false), (8, false), (9, false), (10, false)] (fun w' => w'.cell? ⟨w.heap.size, 0, none⟩ = some (.slice a1 dl.length c1) ∧ w'.cell? ⟨w.heap.size, 1, none⟩ = some (.int .i64 (-1))) (by kernel_rfl) (by kernel_rfl) rfl (by kernel_rfl) (by intro _ _ d _ _ h; cases d <;> exact h) (hwd ▸ (let h := cell_of_two GD.out; ⟨h.1, h.2.1⟩)) ?_; simp only [List.map_cons, List.map_nil, List.getElem?_toArray, List.getElem?_cons_zero, List.getElem?_cons_succ, Option.getD_some]
        rw [hwd]
        clear hwd GD OD OQ
        repeat (first | (refine Lone.ro_q (by rfl) (v := ?_) ?_ ?_; rotate_left; (focus (intro w' hSw; (try dsimp only at hSw); go_simp; try with_reducible rfl)); simp only [Act.put, List.setIfInBounds_toArray, List.set_cons_zero, List.set_cons_succ]) | (refine Lone.ro_skip (by rfl) ?_; simp only [Act.put, List.setIfInBounds_toArray, List.set_cons_zero, List.set_cons_succ]))
        (refine Lone.ro_loud (by rfl) (fun K hK => ?_))
        refine wp_append_rdW (w0 := wd) (B := wd.heap.size) (.const (.slice none 0 0)) (.tmp 58) 22 rfl info_string Tryd.underlying22 rfl (by decide) (World.ownsRow_nil _ wd.heap.size _ _) (Below.refl _ _) (Nat.le_refl _) (Nat.le_refl _) (HE.out _ HB.out) svs_one5 (by have := HE16.out; omega) (by have := HE16.out; unfold maxLen; omega) rfl rfl ?_
        intro v2 w2 ho2 hb2
        rw [Nat.zero_add, List.nil_append] at ho2
        have HB2 := Lib.hid hb2
        have HO2 := Lib.hid ho2
        clear ho2 hb2
        (refine hK.out _ _ (fun w' => w'.cell? ⟨w.heap.size, 0, none⟩ = some (.slice a1 dl.length c1) ∧ w'.cell? ⟨w.heap.size, 1, none⟩ = some (.int .i64 (-1))) (.inl fun _ h => h) ((let h := cell_of_two (HGf.out _ HB2.out); ⟨h.1, h.2.1⟩)) ?_; clear hK K; try simp only [Act.put, List.setIfInBounds_toArray, List.set_cons_zero, List.set_cons_succ])
        try repeat (first | (refine Lone.ro_q (by rfl) (v := ?_) ?_ ?_; rotate_left; (focus (intro w' hSw; (try dsimp only at hSw); go_simp; try with_reducible rfl)); simp only [Act.put, List.setIfInBounds_toArray, List.set_cons_zero, List.set_cons_succ]) | (refine Lone.ro_skip (by rfl) ?_; simp only [Act.put, List.setIfInBounds_toArray, List.set_cons_zero, List.set_cons_succ]))
        (refine Lone.ro_loud (by rfl) (fun K hK => ?_))
        refine wp_append_rdW (w0 := wd) (B := wd.heap.size) (.tmp 59) (.tmp 60) 22 rfl info_string Tryd.underlying22 rfl (by decide) HO2.out HB2.out (Nat.le_refl _) HB2.out.size (HQf.out _ HB2.out) svs_one5 (by have := HE16.out; have := HI40.out; omega) (by have := HE16.out; have := HI40.out; unfold maxLen; omega) rfl rfl ?_
        intro v3 w3 ho3 hb3
        rw [← svs_appendP, ← List.length_append] at ho3
        have HB3 := Lib.hid hb3
        have HR3 := Lib.hid (rdS_owns ho3)
        clear ho3 hb3 HO2
        (refine hK.out _ _ (fun w' => w'.cell? ⟨w.heap.size, 0, none⟩ = some (.slice a1 dl.length c1) ∧ w'.cell? ⟨w.heap.size, 1, none⟩ = some (.int .i64 (-1))) (.inl fun _ h => h) ((let h := cell_of_two (HGf.out _ HB3.out); ⟨h.1, h.2.1⟩)) ?_; clear hK K; try simp only [Act.put, List.setIfInBounds_toArray, List.set_cons_zero, List.set_cons_succ])
        try repeat (first | (refine Lone.ro_q (by rfl) (v := ?_) ?_ ?_; rotate_left; (focus (intro w' hSw; (try dsimp only at hSw); go_simp; try with_reducible rfl)); simp only [Act.put, List.setIfInBounds_toArray, List.set_cons_zero, List.set_cons_succ]) | (refine Lone.ro_skip (by rfl) ?_; simp only [Act.put, List.setIfInBounds_toArray, List.set_cons_zero, List.set_cons_succ]))
        have hcl := closure_any dl (-1) (.slice a1 dl.length c1) w3 (HDf.out _ HB3.out) (z1 ++ ids) v3 HR3.out (fun y hy => (List.mem_append.1 hy).elim (HES.out y) (HIS.out y)) (by have := HE16.out; have := HI40.out; rw [List.length_append]; omega) (HT.out _ (HBf.out _ HB3.out))
        obtain ⟨⟨all, ee⟩, hq⟩ : ∃ q, q = reachF (getF ⟨dl, -1⟩) (z1 ++ ids) := ⟨_, rfl⟩
        rw [← hq] at hcl
        have HQ := Lib.hid hq.symm
        have HCL := Lib.hid hcl
        clear hcl hq
        (refine Lone.ro_loud (by rfl) (fun K hK => ?_); go_simp)
        (with_reducible refine HCL.out.mono ?_)
        rintro e X ⟨va, rfl, hra, hb⟩
        have HX := Lib.hid (HB3.out.trans (hb.mono HB3.out.size))
        obtain ⟨l1, l2, rfl⟩ := rd_form hra
        (refine hK.out _ _ (fun w' => w'.cell? ⟨w.heap.size, 0, none⟩ = some (.slice a1 dl.length c1) ∧ w'.cell? ⟨w.heap.size, 1, none⟩ = some (.int .i64 (-1))) (.inl fun _ h => h) ((let h := cell_of_two (HGf.out _ HX.out); ⟨h.1, h.2.1⟩)) ?_; clear hK K; try simp only [Act.put, List.setIfInBounds_toArray, List.set_cons_zero, List.set_cons_succ])
        repeat (first | (refine Lone.ro_q (by rfl) (v := ?_) ?_ ?_; rotate_left; (focus (intro w' hSw; (try dsimp only at hSw); go_simp; try with_reducible rfl)); simp only [Act.put, List.setIfInBounds_toArray, List.set_cons_zero, List.set_cons_succ]) | (refine Lone.ro_skip (by rfl) ?_; simp only [Act.put, List.setIfInBounds_toArray, List.set_cons_zero, List.set_cons_succ]))
        refine Lone.ro_nil ?_
        have HXB := Lib.hid (HBf.out _ HX.out)
        have GD := Lib.hid (HGf.out _ HX.out)
        have HRF := Lib.hid (fun wr (h : Below X.heap.size X wr) => (HDf.out _ HX.out).below h)
        have HID := Lib.hid (fun wr (h : Below X.heap.size X wr) => (HQf.out _ HX.out).below h)
        have HALL := Lib.hid (fun wr (h : Below X.heap.size X wr) => hra.below h)
        have HGD := Lib.hid (fun wr (h : Below X.heap.size X wr) => blk_below GD.out h)
        have HTX := Lib.hid (fun wr (h : Below X.heap.size X wr) => HT.out wr (HXB.out.trans (h.mono HXB.out.size)))
        have HB0 := Lib.hid (Below.refl X.heap.size X)
        clear hra hb HCL HGf HDf HQf HBf HB2 HB3 HR3 HB HX GD
        by_cases he : ee = 0
        · subst he
          obtain ⟨hcl, hin, hsrt⟩ := reach_ok HQ.out
          have HCL := Lib.hid hcl
          have HIN0 := Lib.hid hin
          have HSRT := Lib.hid hsrt
          have HAL := Lib.hid (show all.length ≤ 400 from hcl.len)
          clear hcl hin hsrt
          go_wp2_with fail
          go_loopw [15] (fun i wr => ∃ j : Nat, j ≤ all.length ∧ i = .int .i64 (j : Int) ∧ Hid (Below X.heap.size X wr)) (fun i _ => all.length - (intOf i).toNat)
          case atStart => exact ⟨0, Nat.zero_le _, rfl, HB0⟩
          case round =>
            clear HB0
            obtain ⟨j, hj, rfl, HB1⟩ := hrel
            by_cases hjl : j < all.length
            · have HJL := Lib.hid hjl
              have kb : decide ((j : Int) < (all.length : Int)) = true := decide_eq_true (by omega)
              have ki : (j : Int) < (all.length : Int) := by omega
              have kn : j < all.length := hjl
              have kz : (0 : Int) ≤ (j : Int) := by omega
              have k4 : (j : Int) < 400 := by have := HAL.out; omega
              obtain ⟨bl, ol, hbl, _, _⟩ := rdS_at' (HALL.out _ HB1.out) (by omega)
              subst hbl
              obtain ⟨x, hx⟩ : ∃ x, x = all.getD j noB := ⟨_, rfl⟩
              have HXC := Lib.hid (fun wr (h : Below X.heap.size X wr) => ((rdS_cl (HALL.out wr h) hjl).trans (by rw [← hx]) : wr.cell? ⟨bl, ol + j, none⟩ = some (.string x)))
              have HIN := Lib.hid (show x ∈ all by rw [hx, List.getD, List.getElem?_eq_getElem hjl]; exact List.getElem_mem hjl)
              obtain ⟨hg0, hd0⟩ := HCL.out.ok x HIN.out
              have hlk := HCL.out.links x HIN.out
              have hget := fun wr (h : Below X.heap.size X wr) => sget_any dl (-1) (.slice a1 dl.length c1) wr (HRF.out wr h) x (by obtain ⟨q, hq⟩ : ∃ q, getF ⟨dl, -1⟩ x = (q, 0) := ⟨_, Prod.ext rfl hg0⟩; have := (get_sum hq).2.1; omega) (HTX.out wr h)
              have hsz := getF_small ⟨dl, -1⟩ x
              obtain ⟨⟨s, es⟩, hq⟩ : ∃ q, q = getF ⟨dl, -1⟩ x := ⟨_, rfl⟩
              rw [← hq] at hget hg0 hd0 hlk hsz
              obtain rfl : es = 0 := hg0
              obtain ⟨⟨o, ed⟩, hdq⟩ : ∃ q, q = decodeF s := ⟨_, rfl⟩
              dsimp only at hd0 hlk hsz
              rw [← hdq] at hd0 hlk
              obtain rfl : ed = 0 := hd0
              dsimp only at hlk
              have HGET := Lib.hid hget
              have HSZs := Lib.hid hsz
              have HLK := Lib.hid hlk
              have HDQ := Lib.hid hdq.symm
              have hgo := goodF_good (decode_ok hdq.symm).1
              have HEL := Lib.hid (And.intro hgo.ents hgo.pars)
              have HLL := Lib.hid (links_good hgo).1
              have HXE := Lib.hid hx
              clear hget hsz hlk hdq hgo hq hjl hx
              have hb := (Below.refl wr.heap.size wr).drew
              replace HB1 := Lib.hid (HB1.out.trans (hb.mono HB1.out.size))
              clear hb
              go_wp2_with fail
              obtain ⟨wd, hwd⟩ : ∃ x, wr.drew = x := ⟨_, rfl⟩
              rw [hwd] at HB1
              refine Lone.wp_region_order [(0, false), (1, false), (2, false), (3, false), (4, false), (5, true), (6, false), (7, false), (8, false), (9, false), (10, false)] (fun w' => w'.cell? ⟨w.heap.size, 0, none⟩ = some (.slice a1 dl.length c1) ∧ w'.cell? ⟨w.heap.size, 1, none⟩ = some (.int .i64 (-1)) ∧ w'.cell? ⟨bl, ol + j, none⟩ = some (.string x)) (by kernel_rfl) (by kernel_rfl) rfl (by kernel_rfl) (by intro _ _ d _ _ h; cases d <;> exact h) (hwd ▸ (let h := cell_of_two (HGD.out _ HB1.out); ⟨h.1, h.2.1, HXC.out _ HB1.out⟩)) ?_; simp only [List.map_cons, List.map_nil, List.getElem?_toArray, List.getElem?_cons_zero, List.getElem?_cons_succ, Option.getD_some]
              rw [hwd]
              clear hwd
              repeat (first | (refine Lone.ro_q (by rfl) (v := ?_) ?_ ?_; rotate_left; (focus (intro w' hSw; (try dsimp only at hSw); go_simp; try with_reducible rfl)); simp only [Act.put, List.setIfInBounds_toArray, List.set_cons_zero, List.set_cons_succ]) | (refine Lone.ro_skip (by rfl) ?_; simp only [Act.put, List.setIfInBounds_toArray, List.set_cons_zero, List.set_cons_succ]))
              (refine Lone.ro_loud (by rfl) (fun K hK => ?_); go_simp)
              (with_reducible refine (HGET.out _ HB1.out).mono ?_)
              rintro e w3 ⟨rfl, hb⟩
              have HB3 := Lib.hid (HB1.out.trans (hb.mono HB1.out.size))
              clear hb HGET
              (refine hK.out _ _ (fun w' => w'.cell? ⟨w.heap.size, 0, none⟩ = some (.slice a1 dl.length c1) ∧ w'.cell? ⟨w.heap.size, 1, none⟩ = some (.int .i64 (-1)) ∧ w'.cell? ⟨bl, ol + j, none⟩ = some (.string x)) (.inl fun _ h => h) ((let h := cell_of_two (HGD.out _ HB3.out); ⟨h.1, h.2.1, HXC.out _ HB3.out⟩)) ?_; clear hK K; try simp only [Act.put, List.setIfInBounds_toArray, List.set_cons_zero, List.set_cons_succ])
              repeat (first | (refine Lone.ro_q (by rfl) (v := ?_) ?_ ?_; rotate_left; (focus (intro w' hSw; (try dsimp only at hSw); go_simp; try with_reducible rfl)); simp only [Act.put, List.setIfInBounds_toArray, List.set_cons_zero, List.set_cons_succ]) | (refine Lone.ro_skip (by rfl) ?_; simp only [Act.put, List.setIfInBounds_toArray, List.set_cons_zero, List.set_cons_succ]))
              refine Lone.ro_nil ?_
              have hdec := decode_any s w3 (by have := HSZs.out; omega)
              rw [HDQ.out] at hdec
              have HDEC := Lib.hid hdec
              clear hdec
              go_wp2_with fail
              (with_reducible refine HDEC.out.mono ?_)
              rintro e4 w4 ⟨ve, vp, rfl, re, rs, hb⟩
              have HB4 := Lib.hid (HB3.out.trans (hb.mono HB3.out.size))
              have RP4 := Lib.hid rs
              have RE4 := Lib.hid re
              obtain ⟨C, hC⟩ : ∃ C : Array Value, C = (objC o ve vp).toArray := ⟨_, rfl⟩
              have hsz : C.size = 9 := by rw [hC]; rfl
              have hone : C.all (·.oneCell') = true := by rw [hC]; exact objC_one re rs
              rw [← hC]
              have HCC := Lib.hid hC
              clear hC re rs hb HDEC
              by_cases hj0 : 0 < j
              · have HJ0 := Lib.hid hj0
                have kg : decide ((0 : Int) < (j : Int)) = true := decide_eq_true (by omega)
                have kg2 : decide (0 < j) = true := decide_eq_true hj0
                obtain ⟨m, hm⟩ : ∃ m, m = j - 1 := ⟨_, rfl⟩
                have hw : IntKind.i64.wrap ((j : Int) - 1) = (m : Int) := by rw [IntKind.wrap_i64]; omega
                have hmz : (0 : Int) ≤ (m : Int) := by omega
                have hmi : (m : Int) < (all.length : Int) := by omega
                have hml : m < all.length := by omega
                obtain ⟨y, hy⟩ : ∃ y, y = all.getD m noB := ⟨_, rfl⟩
                have HYC := Lib.hid (fun wr (h : Below X.heap.size X wr) => ((rdS_cl (HALL.out wr h) hml).trans (by rw [← hy]) : wr.cell? ⟨bl, ol + m, none⟩ = some (.string y)))
                have hlt : Op.bytesLess y.toList x.toList = true := by have := List.pairwise_iff_getElem.1 HSRT.out m j hml kn (by omega); rw [hy, HXE.out, List.getD, List.getD, List.getElem?_eq_getElem hml, List.getElem?_eq_getElem kn]; exact this
                clear hy hm hj0
                go_wp2_with (refine wpList_store_blk (by rfl) 54 (.tmp 18) (.tmp 88) rfl w4.heap.size C rfl rfl (old := _) (heap_alloc_new _ _) (by rw [hsz]; exact info_ob) (by rw [hsz]; rfl) hone ?_; intro w5 gy uy; have hbz := below_upd ((Below.refl w4.heap.size w4).alloc (Nat.le_refl _) _) uy (Nat.le_refl _) (by simp); have HB5 := Lib.hid (HB4.out.trans (hbz.mono HB4.out.size)); have RE5 := Lib.hid (rdRow.below RE4.out hbz); have RP5 := Lib.hid (RP4.out.below hbz); have HG5 := Lib.hid gy; clear gy uy hbz)
                obtain ⟨ob, hob⟩ : ∃ x, x = w4.heap.size := ⟨_, rfl⟩
                rw [← hob] at HG5
                try rw [← hob]
                clear hob
                have hb := (Below.refl w5.heap.size w5).drew
                replace HB5 := Lib.hid (HB5.out.trans (hb.mono HB5.out.size))
                have HG6 := Lib.hid (blk_below HG5.out hb)
                have RE6 := Lib.hid (rdRow.below RE5.out hb)
                have RP6 := Lib.hid (RP5.out.below hb)
                clear hb HG5 RE5 RP5
                obtain ⟨w6, hwd⟩ : ∃ x, w5.drew = x := ⟨_, rfl⟩
                rw [hwd] at HB5 HG6 RE6 RP6
                refine Lone.wp_region_order [(0, false), (1, false), (2, false), (3, false), (4, false), (5, false), (6, false), (7, false), (8, false), (9, false), (10, false), (11, false), (12, false), (13, false), (14, false), (15, false), (16, false), (17, false), (18, false), (19, false), (20, false), (21, false)] (fun w' => w'.cell? ⟨bl, ol + j, none⟩ = some (.string x) ∧ w'.cell? ⟨bl, ol + m, none⟩ = some (.string y)) (by kernel_rfl) (by kernel_rfl) rfl (by kernel_rfl) (by intro _ _ d _ _ h; cases d <;> exact h) (hwd ▸ (⟨HXC.out _ HB5.out, HYC.out _ HB5.out⟩)) ?_; simp only [List.map_cons, List.map_nil, List.getElem?_toArray, List.getElem?_cons_zero, List.getElem?_cons_succ, Option.getD_some]
                rw [hwd]
                clear hwd
                repeat (first | (refine Lone.ro_q (by rfl) (v := ?_) ?_ ?_; rotate_left; (focus (intro w' hSw; (try dsimp only at hSw); go_simp; try with_reducible rfl)); simp only [Act.put, List.setIfInBounds_toArray, List.set_cons_zero, List.set_cons_succ]) | (refine Lone.ro_skip (by rfl) ?_; simp only [Act.put, List.setIfInBounds_toArray, List.set_cons_zero, List.set_cons_succ]))
                refine Lone.ro_nil ?_
                have HB6 := HB5
                clear HB5
                go_wp2_with (refine wpList_load_blk (by rfl) 54 (.tmp 18) rfl ob rfl (.agg C) rfl HG6.out Tryd.underlying54 rfl (by rw [hsz]; exact info_ob) ?_)
                have hlk := links_any o ve vp w6 RE6.out RP6.out HEL.out
                rw [← HCC.out] at hlk
                have HC := Lib.hid hlk
                clear hlk
                (with_reducible refine HC.out.mono ?_)
                rintro e7 w7 ⟨v7, rfl, ho7, hb⟩
                have HB7 := Lib.hid (HB6.out.trans (hb.mono HB6.out.size))
                have RL7 := Lib.hid (rdS_owns ho7)
                obtain ⟨m1, m2, rfl⟩ := rd_form RL7.out
                clear HC ho7 hb
                obtain ⟨L, hL⟩ : ∃ L, L = linksF o := ⟨_, rfl⟩
                rw [← hL] at RL7 HLK HLL
                try rw [← hL]
                clear hL
                go_wp2_with fail
                go_loopw [115] (fun i wq => ∃ q : Nat, q ≤ L.length ∧ i = .int .i64 (q : Int) ∧ wq = w7) (fun i _ => L.length - (intOf i).toNat)
                case atStart => exact ⟨0, Nat.zero_le _, rfl, rfl⟩
                case round =>
                  obtain ⟨q, hq, rfl, hwr⟩ := hrel
                  subst hwr
                  by_cases hql : q < L.length
                  · have HQL := Lib.hid hql
                    have kb : decide ((q : Int) < (L.length : Int)) = true := decide_eq_true (by omega)
                    have ki : (q : Int) < (L.length : Int) := by omega
                    have kz : (0 : Int) ≤ (q : Int) := by omega
                    have kl := HLL.out
                    obtain ⟨bq, oq, hbq, _, hcq⟩ := rdS_at' (RL7.out) (by omega)
                    subst hbq
                    have e0 := hcq q hql
                    obtain ⟨y, hy⟩ : ∃ y, y = L.getD q noB := ⟨_, rfl⟩
                    rw [← hy] at e0
                    have HIN := Lib.hid (show y ∈ L by rw [hy, List.getD, List.getElem?_eq_getElem hql]; exact List.getElem_mem hql)
                    have hwt := within_any all y _ wr (HALL.out _ HB7.out)
                    rw [hasB_iff.2 (HLK.out y HIN.out)] at hwt
                    have HC := Lib.hid hwt
                    clear hwt hcq hy hql
                    go_wp2_with fail
                    (with_reducible refine HC.out.mono ?_)
                    rintro e wz ⟨rfl, rfl⟩
                    clear HC
                    go_wp2_with fail
                    exact ⟨⟨q + 1, HQL.out, rfl, trivial⟩, meas_step (n := L.length) _ rfl HQL.out⟩
                  · have kb : decide ((q : Int) < (L.length : Int)) = false := decide_eq_false (by omega)
                    have kb2 : decide (q < L.length) = false := decide_eq_false hql
                    clear hql
                    go_wp2_with fail
                    exact ⟨⟨j + 1, HJL.out, rfl, HB7⟩, meas_step (n := all.length) _ rfl HJL.out⟩
              · have kg : decide ((0 : Int) < (j : Int)) = false := decide_eq_false (by omega)
                have kg2 : decide (0 < j) = false := decide_eq_false hj0
                clear hj0
                go_wp2_with (refine wpList_store_blk (by rfl) 54 (.tmp 18) (.tmp 88) rfl w4.heap.size C rfl rfl (old := _) (heap_alloc_new _ _) (by rw [hsz]; exact info_ob) (by rw [hsz]; rfl) hone ?_; intro w5 gy uy; have hbz := below_upd ((Below.refl w4.heap.size w4).alloc (Nat.le_refl _) _) uy (Nat.le_refl _) (by simp); have HB5 := Lib.hid (HB4.out.trans (hbz.mono HB4.out.size)); have RE5 := Lib.hid (rdRow.below RE4.out hbz); have RP5 := Lib.hid (RP4.out.below hbz); have HG5 := Lib.hid gy; clear gy uy hbz)
                obtain ⟨ob, hob⟩ : ∃ x, x = w4.heap.size := ⟨_, rfl⟩
                rw [← hob] at HG5
                try rw [← hob]
                clear hob
                have hb := (Below.refl w5.heap.size w5).drew
                replace HB5 := Lib.hid (HB5.out.trans (hb.mono HB5.out.size))
                have HG6 := Lib.hid (blk_below HG5.out hb)
                have RE6 := Lib.hid (rdRow.below RE5.out hb)
                have RP6 := Lib.hid (RP5.out.below hb)
                clear hb HG5 RE5 RP5
                obtain ⟨w6, hwd⟩ : ∃ x, w5.drew = x := ⟨_, rfl⟩
                rw [hwd] at HB5 HG6 RE6 RP6
                refine Lone.wp_region_order [(0, false), (1, false), (2, false), (3, false), (4, false), (5, false), (6, false), (7, false), (8, false), (9, false), (10, false), (11, false), (12, false), (13, false), (14, false), (15, false), (16, false), (17, false), (18, false), (19, false), (20, false), (21, false)] (fun w' => w'.cell? ⟨bl, ol + j, none⟩ = some (.string x)) (by kernel_rfl) (by kernel_rfl) rfl (by kernel_rfl) (by intro _ _ d _ _ h; cases d <;> exact h) (hwd ▸ (HXC.out _ HB5.out)) ?_; simp only [List.map_cons, List.map_nil, List.getElem?_toArray, List.getElem?_cons_zero, List.getElem?_cons_succ, Option.getD_some]
                rw [hwd]
                clear hwd
                repeat (first | (refine Lone.ro_q (by rfl) (v := ?_) ?_ ?_; rotate_left; (focus (intro w' hSw; (try dsimp only at hSw); go_simp; try with_reducible rfl)); simp only [Act.put, List.setIfInBounds_toArray, List.set_cons_zero, List.set_cons_succ]) | (refine Lone.ro_skip (by rfl) ?_; simp only [Act.put, List.setIfInBounds_toArray, List.set_cons_zero, List.set_cons_succ]))
                refine Lone.ro_nil ?_
                have HB6 := HB5
                clear HB5
                go_wp2_with (refine wpList_load_blk (by rfl) 54 (.tmp 18) rfl ob rfl (.agg C) rfl HG6.out Tryd.underlying54 rfl (by rw [hsz]; exact info_ob) ?_)
                have hlk := links_any o ve vp w6 RE6.out RP6.out HEL.out
                rw [← HCC.out] at hlk
                have HC := Lib.hid hlk
                clear hlk
                (with_reducible refine HC.out.mono ?_)
                rintro e7 w7 ⟨v7, rfl, ho7, hb⟩
                have HB7 := Lib.hid (HB6.out.trans (hb.mono HB6.out.size))
                have RL7 := Lib.hid (rdS_owns ho7)
                obtain ⟨m1, m2, rfl⟩ := rd_form RL7.out
                clear HC ho7 hb
                obtain ⟨L, hL⟩ : ∃ L, L = linksF o := ⟨_, rfl⟩
                rw [← hL] at RL7 HLK HLL
                try rw [← hL]
                clear hL
                go_wp2_with fail
                go_loopw [115] (fun i wq => ∃ q : Nat, q ≤ L.length ∧ i = .int .i64 (q : Int) ∧ wq = w7) (fun i _ => L.length - (intOf i).toNat)
                case atStart => exact ⟨0, Nat.zero_le _, rfl, rfl⟩
                case round =>
                  obtain ⟨q, hq, rfl, hwr⟩ := hrel
                  subst hwr
                  by_cases hql : q < L.length
                  · have HQL := Lib.hid hql
                    have kb : decide ((q : Int) < (L.length : Int)) = true := decide_eq_true (by omega)
                    have ki : (q : Int) < (L.length : Int) := by omega
                    have kz : (0 : Int) ≤ (q : Int) := by omega
                    have kl := HLL.out
                    obtain ⟨bq, oq, hbq, _, hcq⟩ := rdS_at' (RL7.out) (by omega)
                    subst hbq
                    have e0 := hcq q hql
                    obtain ⟨y, hy⟩ : ∃ y, y = L.getD q noB := ⟨_, rfl⟩
                    rw [← hy] at e0
                    have HIN := Lib.hid (show y ∈ L by rw [hy, List.getD, List.getElem?_eq_getElem hql]; exact List.getElem_mem hql)
                    have hwt := within_any all y _ wr (HALL.out _ HB7.out)
                    rw [hasB_iff.2 (HLK.out y HIN.out)] at hwt
                    have HC := Lib.hid hwt
                    clear hwt hcq hy hql
                    go_wp2_with fail
                    (with_reducible refine HC.out.mono ?_)
                    rintro e wz ⟨rfl, rfl⟩
                    clear HC
                    go_wp2_with fail
                    exact ⟨⟨q + 1, HQL.out, rfl, trivial⟩, meas_step (n := L.length) _ rfl HQL.out⟩
                  · have kb : decide ((q : Int) < (L.length : Int)) = false := decide_eq_false (by omega)
                    have kb2 : decide (q < L.length) = false := decide_eq_false hql
                    clear hql
                    go_wp2_with fail
                    exact ⟨⟨j + 1, HJL.out, rfl, HB7⟩, meas_step (n := all.length) _ rfl HJL.out⟩
            · have kb : decide ((j : Int) < (all.length : Int)) = false := decide_eq_false (by omega)
              have kb2 : decide (j < all.length) = false := decide_eq_false hjl
              clear hjl
              go_wp2_with fail
              go_loopw [22] (fun i wq => ∃ q : Nat, q ≤ ids.length ∧ i = .int .i64 (q : Int) ∧ wq = wr) (fun i _ => ids.length - (intOf i).toNat)
              case atStart => exact ⟨0, Nat.zero_le _, rfl, rfl⟩
              case round =>
                obtain ⟨q, hq, rfl, hwr⟩ := hrel
                subst hwr
                by_cases hql : q < ids.length
                · have HQL := Lib.hid hql
                  have kb : decide ((q : Int) < (ids.length : Int)) = true := decide_eq_true (by omega)
                  have ki : (q : Int) < (ids.length : Int) := by omega
                  have kz : (0 : Int) ≤ (q : Int) := by omega
                  have kl := HI40.out
                  obtain ⟨bq, oq, hbq, _, hcq⟩ := rdS_at' (HID.out _ HB1.out) (by omega)
                  subst hbq
                  have e0 := hcq q hql
                  obtain ⟨y, hy⟩ : ∃ y, y = ids.getD q noB := ⟨_, rfl⟩
                  rw [← hy] at e0
                  have HIN := Lib.hid (show y ∈ ids by rw [hy, List.getD, List.getElem?_eq_getElem hql]; exact List.getElem_mem hql)
                  have hwt := within_any all y _ wr (HALL.out _ HB1.out)
                  rw [hasB_iff.2 ((fun (y : ByteArray) (hy : y ∈ ids) => HIN0.out y (List.mem_append.2 (.inr hy))) y HIN.out)] at hwt
                  have HC := Lib.hid hwt
                  clear hwt hcq hy hql
                  go_wp2_with fail
                  (with_reducible refine HC.out.mono ?_)
                  rintro e wz ⟨rfl, rfl⟩
                  clear HC
                  go_wp2_with fail
                  exact ⟨⟨q + 1, HQL.out, rfl, trivial⟩, meas_step (n := ids.length) _ rfl HQL.out⟩
                · have kb : decide ((q : Int) < (ids.length : Int)) = false := decide_eq_false (by omega)
                  have kb2 : decide (q < ids.length) = false := decide_eq_false hql
                  clear hql
                  obtain ⟨rb, hrb⟩ : ∃ rb, rb = hasB all root := ⟨_, rfl⟩
                  have hwt := within_any all root _ wr (HALL.out _ HB1.out)
                  rw [← hrb] at hwt
                  have HC := Lib.hid hwt
                  have HRB := Lib.hid hrb
                  clear hwt hrb
                  go_wp2_with fail
                  (with_reducible refine HC.out.mono ?_)
                  rintro e wz ⟨rfl, rfl⟩
                  clear HC
                  cases rb with
                  | false =>
                    go_wp2_with fail
                    go_ret
                    exact ⟨rfl, HXB.out.trans (HB1.out.mono HXB.out.size)⟩
                  | true =>
                    obtain ⟨sm, hsm, hsub⟩ := reach_in HCL.out (ids := [root]) (fun y hy => by rw [List.mem_singleton.1 hy]; exact hasB_iff.1 HRB.out.symm)
                    obtain ⟨hcl2, hin2, _⟩ := reach_ok hsm
                    have HSUB := Lib.hid hsub
                    have HRIN := Lib.hid (hin2 root (by simp))
                    have HSL := Lib.hid (show sm.length ≤ 400 from hcl2.len)
                    have hbz := (Below.refl wz.heap.size wz).alloc (Nat.le_refl _) (.cells #[.string root] 9)
                    have HBz := Lib.hid (HB1.out.trans (hbz.mono HB1.out.size))
                    have hcl3 := closure_any dl (-1) (.slice a1 dl.length c1) _ (HRF.out _ HBz.out) [root] _ (rdS_owns (owns_new wz root)) (fun y hy => by rw [List.mem_singleton.1 hy]; have := HFR.out; omega) (by simp) (HTX.out _ HBz.out)
                    rw [hsm] at hcl3
                    have HC := Lib.hid hcl3
                    clear hcl3 hsm hsub hcl2 hin2 hbz
                    obtain ⟨k0, k1, k2, k3⟩ := cell_of_two (HGD.out _ HB1.out)
                    go_wp2_with fail
                    clear k0 k1 k2 k3
                    (with_reducible refine HC.out.mono ?_)
                    rintro e w9 ⟨vs, rfl, hrs, hb⟩
                    have HB9 := Lib.hid (HBz.out.trans (hb.mono HBz.out.size))
                    obtain ⟨s1, s2, rfl⟩ := rd_form hrs
                    have HRS := Lib.hid hrs
                    clear HC hb hrs
                    go_wp2_with fail
                    go_loopw [25] (fun i wq => ∃ q : Nat, q ≤ sm.length ∧ i = .int .i64 (q : Int) ∧ wq = w9) (fun i _ => sm.length - (intOf i).toNat)
                    case atStart => exact ⟨0, Nat.zero_le _, rfl, rfl⟩
                    case round =>
                      obtain ⟨q, hq, rfl, hwr⟩ := hrel
                      subst hwr
                      by_cases hql : q < sm.length
                      · have HQL := Lib.hid hql
                        have kb : decide ((q : Int) < (sm.length : Int)) = true := decide_eq_true (by omega)
                        have ki : (q : Int) < (sm.length : Int) := by omega
                        have kz : (0 : Int) ≤ (q : Int) := by omega
                        have kl := HSL.out
                        obtain ⟨bq, oq, hbq, _, hcq⟩ := rdS_at' (HRS.out) (by omega)
                        subst hbq
                        have e0 := hcq q hql
                        obtain ⟨y, hy⟩ : ∃ y, y = sm.getD q noB := ⟨_, rfl⟩
                        rw [← hy] at e0
                        have HIN := Lib.hid (show y ∈ sm by rw [hy, List.getD, List.getElem?_eq_getElem hql]; exact List.getElem_mem hql)
                        have hwt := within_any all y _ wr (HALL.out _ HB9.out)
                        rw [hasB_iff.2 (HSUB.out y HIN.out)] at hwt
                        have HC := Lib.hid hwt
                        clear hwt hcq hy hql
                        go_wp2_with fail
                        (with_reducible refine HC.out.mono ?_)
                        rintro e wz ⟨rfl, rfl⟩
                        clear HC
                        go_wp2_with fail
                        exact ⟨⟨q + 1, HQL.out, rfl, trivial⟩, meas_step (n := sm.length) _ rfl HQL.out⟩
                      · have kb : decide ((q : Int) < (sm.length : Int)) = false := decide_eq_false (by omega)
                        have kb2 : decide (q < sm.length) = false := decide_eq_false hql
                        clear hql
                        have hwt := within_any sm root _ wr HRS.out
                        rw [hasB_iff.2 HRIN.out] at hwt
                        have HC := Lib.hid hwt
                        clear hwt
                        go_wp2_with fail
                        (with_reducible refine HC.out.mono ?_)
                        rintro e wz ⟨rfl, rfl⟩
                        clear HC
                        go_wp2_with fail
                        go_ret
                        exact ⟨rfl, HXB.out.trans (HB9.out.mono HXB.out.size)⟩
        · have n1 : (ee == 0) = false := beq_eq_false_iff_ne.2 he
          have n2 : (ee != 0) = true := by rw [bne, n1]; rfl
          have hnil := reach_bad (g := getF ⟨dl, -1⟩) (ids := z1 ++ ids) (by rw [HQ.out]; exact he)
          rw [HQ.out] at hnil
          dsimp only at hnil
          subst hnil
          clear he
          go_wp2_with fail
          go_ret
          exact ⟨rfl, HXB.out.trans (HB0.out.mono HXB.out.size)⟩
end Go.Proofs.YtalkheljejkpiaaDoor
