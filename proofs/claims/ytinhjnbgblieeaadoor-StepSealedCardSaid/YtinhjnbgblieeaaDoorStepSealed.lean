/- StepSealed: a signed step is accepted at its place for as many as have signed it. -/
import Derived.Test.YtinhjnbgblieeaaDoorStepOrder
import Derived.Test.YtinhjnbgblieeaaDoorRegion3
namespace Go.Proofs.YtinhjnbgblieeaaDoor
open Go.RowKit
set_option linter.unusedVariables false
set_option linter.unusedSimpArgs false

theorem wp_store_blk {P : Program} {w : World} {o : Oper} {a : Act} {K : Act → World → Prop} {Q : Exit → Act → World → Prop} (ty : TypeId) (x y : Operand) (ho : o.op = .store ty x y)
    (g : Nat) (cells : Array Value) (hx : a.eval x = .pointer (some ⟨g, 0, none⟩)) (hy : a.eval y = .agg cells)
    {t : TypeId} {old : Array Value} (hg : w.heap[g]? = some (.cells old t (0, 0))) (hi : (P.info? ty).map (·.size) = some cells.size)
    (hold : old.size = cells.size) (h1 : cells.all (·.oneCell') = true)
    (h : ∀ w' : World, w'.heap[g]? = some (.cells cells t (0, 0)) → Upd (· = g) w w' → K (a.put o.dst undef) w') : o.wp P a w K Q :=
  wp_store_row ty x y ho g cells hx hy t old hg hi hold h1 (h _ (setRow_heap w g old cells t (0, 0) hg) (upd_setRow cells))
theorem rdI_cell {w : World} {b off cap n : Nat} {zs : List Int} (hr : rdI w (.slice (some ⟨b, off, none⟩) zs.length cap) zs) (h : n < zs.length) : w.cell? ⟨b, off + n, none⟩ = some (.int .i64 (zs.getD n 0)) := by
  obtain ⟨b', o', h1, _, hc⟩ := rdI_at hr (by omega)
  simp only [Option.some.injEq, Addr.mk.injEq, and_true] at h1
  obtain ⟨rfl, rfl⟩ := h1
  exact hc n h
theorem rdS_cell {w : World} {b off cap n : Nat} {zs : List ByteArray} (hr : rdS w (.slice (some ⟨b, off, none⟩) zs.length cap) zs) (h : n < zs.length) : w.cell? ⟨b, off + n, none⟩ = some (.string (zs.getD n noB)) := by
  obtain ⟨b', o', h1, _, hc⟩ := rdS_at' hr (by omega)
  simp only [Option.some.injEq, Addr.mk.injEq, and_true] at h1
  obtain ⟨rfl, rfl⟩ := h1
  exact hc n h
theorem key_fr {w : World} {n : Nat} {a b c : Value} (h : w.heap[n]? = some (.cells #[a, b, c] 34 (0, 0))) : w.frozen? ⟨n, 2, none⟩ = false := by
  simp [World.frozen?, h]
theorem key_set {w W : World} {g : Nat} {a b c d : Value} (h : w.heap[g]? = some (.cells #[a, b, c] 34 (0, 0))) (hW : w.setCell ⟨g, 2, none⟩ d = W) : W.heap[g]? = some (.cells #[a, b, d] 34 (0, 0)) := by
  rw [← hW, heap_setCell_same _ _ _ _ _ _ h]; rfl
theorem owns_neS {w : World} {base : Nat} {e t : TypeId} {size : Nat} {v : Value} {n : Nat} {xs : List Value} {b : Nat} {cs : Array Value} {fr : Nat × Nat} (h : w.ownsRow base e size v n xs) (hb : w.heap[b]? = some (.cells cs t fr)) (hne : e ≠ t) : v.ownBlock ≠ some b := by
  rcases h.2 with ⟨rfl, _⟩ | ⟨g, cap, cur, rfl, _, hg, _⟩
  · intro k; cases k
  · intro k
    obtain rfl : g = b := by simpa [Value.ownBlock] using k
    rw [hb] at hg
    injection hg with hg
    injection hg with h1 h2
    exact hne h2.symm
theorem own_set2 {w W : World} {base g k : Nat} {s : Stp} {vw vs d : Value} {cs : Array Value} {fr : Nat × Nat} (h : StpOwn w base g s vw vs) (hk : w.heap[k]? = some (.cells cs 34 fr)) (hn : g ≠ k) (hW : w.setCell ⟨k, 2, none⟩ d = W) : StpOwn W base g s vw vs := by
  subst hW
  refine ⟨?_, owns_setCell h.ow (owns_neS h.ow hk (by decide)) _, owns_setCell h.os (owns_neS h.os hk (by decide)) _⟩
  rw [heap_setCell_other _ _ _ _ hn]; exact h.blk
theorem signs_on {ks : List ByteArray} {s x : Stp} {P : List (Int × ByteArray)} {at_ : Int} {m : Nat} {y : ByteArray} (h : signF sealF (stpOf s P) at_ (m : Int) y = (x, 0)) (hh : headOk s = true) (hP : GoodP P) (hR : RowsBy sealF ks (bodyB at_.toNat s) P) (hm : m < ks.length) (hy : y = ks.getD m noB) :
    ∃ P2, x = stpOf s P2 ∧ GoodP P2 ∧ RowsBy sealF ks (bodyB at_.toNat s) P2 := by
  obtain ⟨_, ha, hw, _⟩ := sign_inv sealF (s := stpOf s P) (at_ := at_) (who := (m : Int)) (key := y) (by rw [h])
  rw [sign_good sealF hh hP y ha hw] at h
  by_cases hmem : (m : Int) ∈ P.map Prod.fst
  · rw [if_pos hmem] at h
    have := congrArg Prod.snd h
    exact absurd (show (8 : Int) = 0 from this) (by decide)
  · rw [if_neg hmem] at h
    have hx := congrArg Prod.fst h
    refine ⟨_, hx.symm, hP.ins hw (sealF_size _ _) (fun p hp e => hmem (by have e2 : p.1 = (m : Int) := e; rw [← e2]; exact List.mem_map_of_mem hp)), fun p hp => ?_⟩
    rcases insP_mem.1 hp with rfl | hp
    · exact ⟨by show (m : Int) < _; omega, by show sealF y _ = sealF (ks.getD ((m : Int)).toNat noB) _; rw [hy]; rfl⟩
    · exact hR p hp
theorem checks_q {ks : List ByteArray} {s q : Stp} {P : List (Int × ByteArray)} {at_ : Int} (need : Int) (hh : headOk s = true) (hP : GoodP P) (ha : 0 ≤ at_ ∧ at_ < 200) (hR : RowsBy sealF ks (bodyB at_.toNat s) P) (hq : q = stpOf s P) :
    checkF sealF ks need at_ q = if (q.who.length : Int) < need then 13 else 0 := by
  subst hq
  rw [check_rows sealF hh hP ha hR]
  simp [stpOf]
theorem body_size {n : Nat} {s : Stp} (hn : n < 200) (h : headOk s = true) : (bodyB n s).size ≤ 140737488355328 := by
  show (bodyL n s).toArray.size ≤ _
  have := body_length hn h
  simp only [List.size_toArray]; omega
theorem first_q {ks : List ByteArray} {s q : Stp} {P : List (Int × ByteArray)} {b : ByteArray} (hq : q = stpOf s P) (hP : GoodP P) (hR : RowsBy sealF ks b P) (hl : 0 < q.who.length) : ∃ m : Nat, m < ks.length ∧ q.who.getD 0 0 = (m : Int) := by
  subst hq
  have hl' : 0 < P.length := by simpa [stpOf] using hl
  have e1 : (stpOf s P).who.getD 0 0 = P[0].1 := getD_map _ _ _ _ hl'
  have h1 := hP.rng P[0] (List.getElem_mem hl')
  have h2 := (hR P[0] (List.getElem_mem hl')).1
  exact ⟨P[0].1.toNat, by omega, by rw [e1]; omega⟩
set_option maxRecDepth 100000 in
set_option maxHeartbeats 3200000 in
theorem stepSealed_walk {w : World} (ht : Tab w) (s : Stp) (vw vs : Value) (hw : rdI w vw s.who) (hs : rdS w vs s.seals) (at_ : Int) (fat : -9223372036854775808 ≤ at_ ∧ at_ ≤ 9223372036854775807) (ot : Int) (fot : -9223372036854775808 ≤ ot ∧ ot ≤ 9223372036854775807)
    (zv : Value) (zn : Nat) (zs : List Int) (fz : rdRow w 1 zv zn (zs.map (.int .i64))) (gz : ∀ n ∈ zs, (Lit.int .i64 n).wf = true) (mz : zn * 8 ≤ 140737488351232)
    (kv : Value) (kn : Nat) (ks : List ByteArray) (fk : rdRow w 1 kv kn (ks.map .string)) (gk_ : ∀ s ∈ ks, s.size ≤ 140737488351232) (mk : kn * 16 ≤ 140737488351232) :
    Calls Tryd.prog 4 #[.agg #[.string s.ref, .string s.old, .string s.new, vw, vs], .int .i64 at_, .int .i64 ot, zv, kv] w fun e w' => e = .returned (.bool true) ∧ Below w.heap.size w w' := by
  obtain rfl : zs.length = zn := by simpa using fz.1
  obtain rfl : ks.length = kn := by simpa using fk.1
  obtain ⟨ae1, ae2, rfl⟩ := rd_form hw
  obtain ⟨ae3, ae4, rfl⟩ := rd_form hs
  obtain ⟨zb, zc, rfl⟩ := rd_form fz
  obtain ⟨kb, kc, rfl⟩ := rd_form fk
  have HT := Lib.hid ht
  have HZR := Lib.hid (fun wr (h : Below w.heap.size w wr) => rdI.below (show rdI w _ zs from fz) h)
  have HKR := Lib.hid (fun wr (h : Below w.heap.size w wr) => rdS.below (show rdS w _ ks from fk) h)
  have HKS := Lib.hid (show ∀ n, n < ks.length → (ks.getD n noB).size ≤ 140737488355328 from fun n hn => by
    rw [List.getD, List.getElem?_eq_getElem hn]
    have := gk_ _ (List.getElem_mem hn)
    show (ks[n]).size ≤ _; omega)
  have HKN := Lib.hid (show zs.length ≤ 140737488351232 ∧ ks.length ≤ 140737488351232 by omega)
  clear ht hw hs fz gz mz fk gk_ mk
  obtain ⟨X, hX⟩ : ∃ X, w.alloc (.cells #[.string s.ref, .string s.old, .string s.new, .slice none 0 0, .slice none 0 0] 25) = X := ⟨_, rfl⟩
  have g0 : X.heap[w.heap.size]? = some (.cells #[.string s.ref, .string s.old, .string s.new, .slice none 0 0, .slice none 0 0] 25 (0, 0)) := by rw [← hX]; exact heap_alloc_new _ _
  have HBX := Lib.hid (show Below w.heap.size w X by rw [← hX]; exact (Below.refl _ _).alloc (Nat.le_refl _) _)
  obtain ⟨c0, c1, c2, c3, c4, _, _⟩ := stp_cells g0
  have HG0 := Lib.hid g0
  go_enter Tryd.func4, Tryd.ntmps4
  go_wp2_with fail
  have hgd := goodStp_any (⟨s.ref, s.old, s.new, [], []⟩ : Stp) (.slice none 0 0) (.slice none 0 0) X (rdI_nil _) (rdS_nil0 _)
  (with_reducible refine hgd.mono ?_)
  rintro e w1 ⟨rfl, hb⟩
  have HG1 := Lib.hid (blk_below HG0.out hb)
  have HB1 := Lib.hid (HBX.out.trans (hb.mono HBX.out.size))
  have HLT := Lib.hid (show w.heap.size < w1.heap.size from lt_of_block HG1.out)
  obtain ⟨e0, he0⟩ : ∃ e0, e0 = goodS (⟨s.ref, s.old, s.new, [], []⟩ : Stp) := ⟨_, rfl⟩
  rw [← he0]
  have HE0 := Lib.hid he0
  clear hgd hb c0 c1 c2 c3 c4 hX he0 HG0 HBX
  by_cases hz : e0 = 0
  · subst hz
    have HHD := Lib.hid (show headOk s = true from (goodS_inv HE0.out.symm).1)
    go_wp2_with (refine wpList_store_blk (by rfl) 34 (.tmp 12) (.tmp 25) rfl w1.heap.size #[.slice kb ks.length kc, .slice none 0 0, .int .i64 (0)] rfl rfl (old := _) (heap_alloc_new _ _) (by kernel_rfl) rfl (by simp [Value.oneCell']) ?_; intro w2 hgz huz; have hbz := below_upd ((Below.refl w1.heap.size w1).alloc (Nat.le_refl _) _) huz (Nat.le_refl _) (by simp); have HK2 := Lib.hid hgz; have HG2 := Lib.hid (blk_below HG1.out hbz); have HB2 := Lib.hid (HB1.out.trans (hbz.mono HB1.out.size)); clear hgz huz hbz)
    obtain ⟨gk, hgk⟩ : ∃ gk, gk = w1.heap.size := ⟨_, rfl⟩
    try rw [← hgk]
    rw [← hgk] at HK2 HLT
    have HKG := HLT
    clear hgk
    have HQ2 := Lib.hid (StpOwn.mk (base := w.heap.size) (s := (⟨s.ref, s.old, s.new, [], []⟩ : Stp)) HG2.out (World.ownsRow_nil _ _ _ _) (World.ownsRow_nil _ _ _ _))
    go_loopw [13] (fun i wr => ∃ (n : Nat) (P : List (Int × ByteArray)) (q : Stp) (q1 : Option Addr) (q2 : Nat) (q3 : Option Addr) (q4 : Nat), n ≤ 8 ∧ i = .int .i64 (n : Int) ∧ Hid (q = stpOf s P) ∧ Hid (GoodP P) ∧ Hid (RowsBy sealF ks (bodyB at_.toNat s) P) ∧ Hid (StpOwn wr w.heap.size w.heap.size q (.slice q1 q.who.length q2) (.slice q3 q.seals.length q4)) ∧ Hid (wr.heap[gk]? = some (.cells #[.slice kb ks.length kc, .slice none 0 0, .int .i64 (0)] 34 (0, 0))) ∧ Hid (Below w.heap.size w wr)) (fun i _ => 8 - (intOf i).toNat)
    case atStart => exact ⟨0, [], (⟨s.ref, s.old, s.new, [], []⟩ : Stp), none, 0, none, 0, by omega, rfl, Lib.hid rfl, Lib.hid goodP_nil, Lib.hid (fun p hp => by cases hp), HQ2, HK2, HB2⟩
    case round =>
      clear HB1 HB2 HG1 HG2 HQ2 HK2
      obtain ⟨n, P, q, q1, q2, q3, q4, hn8, rfl, HQE, HP, HR, HQ9, HK9, HB9⟩ := hrel
      by_cases hl : n < zs.length
      · have hkl : decide ((n : Int) < (zs.length : Int)) = true := decide_eq_true (by omega)
        have hki : (n : Int) < (zs.length : Int) := by omega
        have hk0 : (0 : Int) ≤ (n : Int) := by omega
        by_cases hn : n < 8
        · have h8 : decide ((n : Int) < 8) = true := decide_eq_true (by omega)
          have h82 : decide (n < 8) = true := decide_eq_true hn
          have HN8 := Lib.hid hn
          clear hn8 hn
          have hw1 : wrap64 ((n : Int) + 1) = (n : Int) + 1 := IntWalk.wrap64_in _ (by have := HN8.out; omega)
          obtain ⟨bz, oz, h1, _, hc1⟩ := rdI_at (HZR.out _ HB9.out) (by omega)
          subst h1
          obtain ⟨v, hv⟩ : ∃ v, v = zs.getD n 0 := ⟨_, rfl⟩
          have HZC := Lib.hid (fun wr (h : Below w.heap.size w wr) => ((rdI_cell (HZR.out wr h) hl).trans (by rw [← hv]) : wr.cell? ⟨bz, oz + n, none⟩ = some (.int .i64 v)))
          have z0 := HZC.out _ HB9.out
          clear hc1 hv
          by_cases h0 : 0 ≤ v
          · obtain ⟨m, rfl⟩ : ∃ m : Nat, v = (m : Int) := ⟨v.toNat, by omega⟩
            have v0 : decide ((0 : Int) ≤ (m : Int)) = true := decide_eq_true h0
            clear h0
            by_cases hm : m < ks.length
            · have vm : decide ((m : Int) < (ks.length : Int)) = true := decide_eq_true (by omega)
              have hmi : (m : Int) < (ks.length : Int) := by omega
              have hm0 : (0 : Int) ≤ (m : Int) := by omega
              obtain ⟨bk, ok, h1, _, hc1⟩ := rdS_at' (HKR.out _ HB9.out) (by omega)
              subst h1
              obtain ⟨y, hy⟩ : ∃ y, y = ks.getD m noB := ⟨_, rfl⟩
              have HKC := Lib.hid (fun wr (h : Below w.heap.size w wr) => ((rdS_cell (HKR.out wr h) hm).trans (by rw [← hy]) : wr.cell? ⟨bk, ok + m, none⟩ = some (.string y)))
              have HYS := Lib.hid (show y.size ≤ 140737488355328 by rw [hy]; exact HKS.out m hm)
              obtain ⟨x, f, hsg⟩ := signF_pair sealF q at_ (m : Int) y
              have HSN := Lib.hid (fun h : f = 0 => signs_on (by rw [HQE.out] at hsg; rw [hsg, h]) HHD.out HP.out HR.out hm (ks := ks) hy)
              have HSG := Lib.hid hsg
              clear hsg hy hc1 hm
              have HBd := Lib.hid HB9.out.drew
              have HQd := Lib.hid (HQ9.out.below (Below.refl _ _).drew)
              have HKd := Lib.hid (blk_below HK9.out (Below.refl _ _).drew)
              obtain ⟨c0, c1, c2, c3, c4, _, _⟩ := stp_cells HQ9.out.blk
              go_wp2_with fail
              refine Twin.wp_region_order (.q 0 (.q 1 (.q 2 (.q 3 (.q 4 (.q 5 (.q 6 (.q 7 (.q 8 (.q 9 (.q 10 (.q 11 (.q 12 (.l2 13 17 (.q 14 (.q 15 (.q 16 (.l 17 (.l 18 (.q 19 .nil)))))) (.l 13 (.q 14 (.q 15 (.q 16 (.l 18 (.q 19 .nil)))))))))))))))))))) (fun w' => w'.cell? ⟨w.heap.size, 0, none⟩ = some (.string q.ref) ∧ w'.cell? ⟨w.heap.size, 1, none⟩ = some (.string q.old) ∧ w'.cell? ⟨w.heap.size, 2, none⟩ = some (.string q.new) ∧ w'.cell? ⟨w.heap.size, 3, none⟩ = some (.slice q1 q.who.length q2) ∧ w'.cell? ⟨w.heap.size, 4, none⟩ = some (.slice q3 q.seals.length q4) ∧ w'.cell? ⟨bz, oz + n, none⟩ = some (.int .i64 (m : Int)) ∧ w'.cell? ⟨bk, ok + m, none⟩ = some (.string y)) (by kernel_rfl) (by kernel_rfl) rfl (by kernel_rfl) (by intro _ _ d _ _ h; cases d <;> exact h) ((let h := stp_cells HQd.out.blk; ⟨h.1, h.2.1, h.2.2.1, h.2.2.2.1, h.2.2.2.2.1, HZC.out _ HBd.out, HKC.out _ HBd.out⟩)) ?_; simp only [Twin.Ord.opers, List.getElem?_toArray, List.getElem?_cons_zero, List.getElem?_cons_succ, Option.getD_some]
              repeat (first | (refine Twin.ro_q (by rfl) (v := ?_) ?_ ?_; rotate_left; (focus (intro w' hSw; (try dsimp only at hSw); go_simp; try with_reducible rfl)); simp only [Act.put, List.setIfInBounds_toArray, List.set_cons_zero, List.set_cons_succ]) | (refine Twin.ro_skip (by rfl) ?_; simp only [Act.put, List.setIfInBounds_toArray, List.set_cons_zero, List.set_cons_succ]))
              clear c0 c1 c2 c3 c4
              refine Twin.ro_two ?_ ?_
              focus (
                skip
                (refine Twin.ro_loud (by rfl) (fun K hK => ?_); go_simp)
                have hsg := signStp_any q at_ (m : Int) y (.slice q1 q.who.length q2) (.slice q3 q.seals.length q4) wr.drew (rdI_owns HQd.out.ow) (rdS_owns HQd.out.os) HYS.out (HT.out.below HBd.out)
                rw [HSG.out] at hsg
                (with_reducible refine hsg.mono ?_)
                rintro e w5 ⟨uw, us, rfl, how, hos, hb⟩
                clear hsg
                obtain ⟨x1, x2, rfl⟩ := rd_form (rdI_owns how)
                obtain ⟨x3, x4, rfl⟩ := rd_form (rdS_owns hos)
                have HQ5 := Lib.hid (HQd.out.below hb)
                have HK5 := Lib.hid (blk_below HKd.out hb)
                have HB5 := Lib.hid (HBd.out.trans (hb.mono HBd.out.size))
                (refine hK.out _ _ (fun w' => w'.cell? ⟨w.heap.size, 0, none⟩ = some (.string q.ref) ∧ w'.cell? ⟨w.heap.size, 1, none⟩ = some (.string q.old) ∧ w'.cell? ⟨w.heap.size, 2, none⟩ = some (.string q.new) ∧ w'.cell? ⟨w.heap.size, 3, none⟩ = some (.slice q1 q.who.length q2) ∧ w'.cell? ⟨w.heap.size, 4, none⟩ = some (.slice q3 q.seals.length q4) ∧ w'.cell? ⟨bz, oz + n, none⟩ = some (.int .i64 (m : Int)) ∧ w'.cell? ⟨bk, ok + m, none⟩ = some (.string y)) (.inl fun _ h => h) ((let h := stp_cells HQ5.out.blk; ⟨h.1, h.2.1, h.2.2.1, h.2.2.2.1, h.2.2.2.2.1, HZC.out _ HB5.out, HKC.out _ HB5.out⟩)) ?_; clear hK K; try simp only [Act.put, List.setIfInBounds_toArray, List.set_cons_zero, List.set_cons_succ])
                repeat (first | (refine Twin.ro_q (by rfl) (v := ?_) ?_ ?_; rotate_left; (focus (intro w' hSw; (try dsimp only at hSw); go_simp; try with_reducible rfl)); simp only [Act.put, List.setIfInBounds_toArray, List.set_cons_zero, List.set_cons_succ]) | (refine Twin.ro_skip (by rfl) ?_; simp only [Act.put, List.setIfInBounds_toArray, List.set_cons_zero, List.set_cons_succ]))
                (refine Twin.ro_loud (by rfl) (fun K hK => ?_); go_simp)
                have hbA := (Below.refl w5.heap.size w5).alloc (Nat.le_refl _) (.cells #[.string ⟨#[]⟩, .string ⟨#[]⟩, .string ⟨#[]⟩, .slice none 0 0, .slice none 0 0] 25)
                have HQ6 := Lib.hid (HQ5.out.below hbA)
                have HK6 := Lib.hid (blk_below HK5.out hbA)
                have HB6 := Lib.hid (HB5.out.trans (hbA.mono HB5.out.size))
                (refine hK.out _ _ (fun w' => w'.cell? ⟨w.heap.size, 0, none⟩ = some (.string q.ref) ∧ w'.cell? ⟨w.heap.size, 1, none⟩ = some (.string q.old) ∧ w'.cell? ⟨w.heap.size, 2, none⟩ = some (.string q.new) ∧ w'.cell? ⟨w.heap.size, 3, none⟩ = some (.slice q1 q.who.length q2) ∧ w'.cell? ⟨w.heap.size, 4, none⟩ = some (.slice q3 q.seals.length q4) ∧ w'.cell? ⟨bz, oz + n, none⟩ = some (.int .i64 (m : Int)) ∧ w'.cell? ⟨bk, ok + m, none⟩ = some (.string y)) (.inl fun _ h => h) ((let h := stp_cells HQ6.out.blk; ⟨h.1, h.2.1, h.2.2.1, h.2.2.2.1, h.2.2.2.2.1, HZC.out _ HB6.out, HKC.out _ HB6.out⟩)) ?_; clear hK K; try simp only [Act.put, List.setIfInBounds_toArray, List.set_cons_zero, List.set_cons_succ])
                (refine Twin.ro_loud (by rfl) (fun K hK => ?_))
                refine wp_store_blk 25 (.tmp 14) (.tmp 69) rfl w5.heap.size #[.string x.ref, .string x.old, .string x.new, .slice x1 x.who.length x2, .slice x3 x.seals.length x4] rfl rfl (old := _) (heap_alloc_new _ _) (by kernel_rfl) rfl (by simp [Value.oneCell']) ?_
                intro wz hgz huz
                have hbz := below_upd hbA huz (Nat.le_refl _) (by simp)
                have HN := Lib.hid (StpOwn.mk hgz (owns_base (owns_below how hbz) HBd.out.size) (owns_base (owns_below hos hbz) HBd.out.size))
                have HQ7 := Lib.hid (HQ5.out.below hbz)
                have HK7 := Lib.hid (blk_below HK5.out hbz)
                have HB7 := Lib.hid (HB5.out.trans (hbz.mono HB5.out.size))
                have HNG := Lib.hid (show w.heap.size < w5.heap.size from lt_of_block HQ5.out.blk)
                (refine hK.out _ _ (fun w' => w'.cell? ⟨w.heap.size, 0, none⟩ = some (.string q.ref) ∧ w'.cell? ⟨w.heap.size, 1, none⟩ = some (.string q.old) ∧ w'.cell? ⟨w.heap.size, 2, none⟩ = some (.string q.new) ∧ w'.cell? ⟨w.heap.size, 3, none⟩ = some (.slice q1 q.who.length q2) ∧ w'.cell? ⟨w.heap.size, 4, none⟩ = some (.slice q3 q.seals.length q4) ∧ w'.cell? ⟨bz, oz + n, none⟩ = some (.int .i64 (m : Int)) ∧ w'.cell? ⟨bk, ok + m, none⟩ = some (.string y)) (.inl fun _ h => h) ((let h := stp_cells HQ7.out.blk; ⟨h.1, h.2.1, h.2.2.1, h.2.2.2.1, h.2.2.2.2.1, HZC.out _ HB7.out, HKC.out _ HB7.out⟩)) ?_; clear hK K; try simp only [Act.put, List.setIfInBounds_toArray, List.set_cons_zero, List.set_cons_succ])
                obtain ⟨nb, hnb⟩ : ∃ nb, nb = w5.heap.size := ⟨_, rfl⟩
                rw [← hnb] at HN HNG
                try rw [← hnb]
                clear hnb hgz huz hbz hbA hb how hos HQ5 HQ6 HK5 HK6 HB5 HB6
                repeat (first | (refine Twin.ro_q (by rfl) (v := ?_) ?_ ?_; rotate_left; (focus (intro w' hSw; (try dsimp only at hSw); go_simp; try with_reducible rfl)); simp only [Act.put, List.setIfInBounds_toArray, List.set_cons_zero, List.set_cons_succ]) | (refine Twin.ro_skip (by rfl) ?_; simp only [Act.put, List.setIfInBounds_toArray, List.set_cons_zero, List.set_cons_succ]))
                refine Twin.ro_nil ?_)
              rotate_left
              focus (
                skip
                (refine Twin.ro_loud (by rfl) (fun K hK => ?_); go_simp)
                have hbA : Below wr.drew.heap.size wr.drew (wr.alloc (.cells #[.string ⟨#[]⟩, .string ⟨#[]⟩, .string ⟨#[]⟩, .slice none 0 0, .slice none 0 0] 25)).drew := (Below.refl wr.drew.heap.size wr.drew).alloc (Nat.le_refl _) (.cells #[.string ⟨#[]⟩, .string ⟨#[]⟩, .string ⟨#[]⟩, .slice none 0 0, .slice none 0 0] 25)
                have hgA : (wr.alloc (.cells #[.string ⟨#[]⟩, .string ⟨#[]⟩, .string ⟨#[]⟩, .slice none 0 0, .slice none 0 0] 25)).drew.heap[wr.heap.size]? = some (.cells #[.string ⟨#[]⟩, .string ⟨#[]⟩, .string ⟨#[]⟩, .slice none 0 0, .slice none 0 0] 25 (0, 0)) := heap_alloc_new wr.drew (.cells #[.string ⟨#[]⟩, .string ⟨#[]⟩, .string ⟨#[]⟩, .slice none 0 0, .slice none 0 0] 25)
                have HQ6 := Lib.hid (HQd.out.below hbA)
                have HK6 := Lib.hid (blk_below HKd.out hbA)
                have HB6 := Lib.hid (HBd.out.trans (hbA.mono HBd.out.size))
                (refine hK.out _ _ (fun w' => w'.cell? ⟨w.heap.size, 0, none⟩ = some (.string q.ref) ∧ w'.cell? ⟨w.heap.size, 1, none⟩ = some (.string q.old) ∧ w'.cell? ⟨w.heap.size, 2, none⟩ = some (.string q.new) ∧ w'.cell? ⟨w.heap.size, 3, none⟩ = some (.slice q1 q.who.length q2) ∧ w'.cell? ⟨w.heap.size, 4, none⟩ = some (.slice q3 q.seals.length q4) ∧ w'.cell? ⟨bz, oz + n, none⟩ = some (.int .i64 (m : Int)) ∧ w'.cell? ⟨bk, ok + m, none⟩ = some (.string y)) (.inl fun _ h => h) ((let h := stp_cells HQ6.out.blk; ⟨h.1, h.2.1, h.2.2.1, h.2.2.2.1, h.2.2.2.2.1, HZC.out _ HB6.out, HKC.out _ HB6.out⟩)) ?_; clear hK K; try simp only [Act.put, List.setIfInBounds_toArray, List.set_cons_zero, List.set_cons_succ])
                (refine Twin.ro_loud (by rfl) (fun K hK => ?_); go_simp)
                have hsg := signStp_any q at_ (m : Int) y (.slice q1 q.who.length q2) (.slice q3 q.seals.length q4) (wr.alloc (.cells #[.string ⟨#[]⟩, .string ⟨#[]⟩, .string ⟨#[]⟩, .slice none 0 0, .slice none 0 0] 25)).drew (rdI_owns HQ6.out.ow) (rdS_owns HQ6.out.os) HYS.out (HT.out.below HB6.out)
                rw [HSG.out] at hsg
                (with_reducible refine hsg.mono ?_)
                rintro e w5 ⟨uw, us, rfl, how, hos, hb⟩
                clear hsg
                obtain ⟨x1, x2, rfl⟩ := rd_form (rdI_owns how)
                obtain ⟨x3, x4, rfl⟩ := rd_form (rdS_owns hos)
                have HQ5 := Lib.hid (HQ6.out.below hb)
                have HK5 := Lib.hid (blk_below HK6.out hb)
                have HB5 := Lib.hid (HB6.out.trans (hb.mono HB6.out.size))
                have hgB := blk_below hgA hb
                (refine hK.out _ _ (fun w' => w'.cell? ⟨w.heap.size, 0, none⟩ = some (.string q.ref) ∧ w'.cell? ⟨w.heap.size, 1, none⟩ = some (.string q.old) ∧ w'.cell? ⟨w.heap.size, 2, none⟩ = some (.string q.new) ∧ w'.cell? ⟨w.heap.size, 3, none⟩ = some (.slice q1 q.who.length q2) ∧ w'.cell? ⟨w.heap.size, 4, none⟩ = some (.slice q3 q.seals.length q4) ∧ w'.cell? ⟨bz, oz + n, none⟩ = some (.int .i64 (m : Int)) ∧ w'.cell? ⟨bk, ok + m, none⟩ = some (.string y)) (.inl fun _ h => h) ((let h := stp_cells HQ5.out.blk; ⟨h.1, h.2.1, h.2.2.1, h.2.2.2.1, h.2.2.2.2.1, HZC.out _ HB5.out, HKC.out _ HB5.out⟩)) ?_; clear hK K; try simp only [Act.put, List.setIfInBounds_toArray, List.set_cons_zero, List.set_cons_succ])
                repeat (first | (refine Twin.ro_q (by rfl) (v := ?_) ?_ ?_; rotate_left; (focus (intro w' hSw; (try dsimp only at hSw); go_simp; try with_reducible rfl)); simp only [Act.put, List.setIfInBounds_toArray, List.set_cons_zero, List.set_cons_succ]) | (refine Twin.ro_skip (by rfl) ?_; simp only [Act.put, List.setIfInBounds_toArray, List.set_cons_zero, List.set_cons_succ]))
                (refine Twin.ro_loud (by rfl) (fun K hK => ?_))
                refine wp_store_blk 25 (.tmp 14) (.tmp 69) rfl wr.heap.size #[.string x.ref, .string x.old, .string x.new, .slice x1 x.who.length x2, .slice x3 x.seals.length x4] rfl rfl (old := _) hgB (by kernel_rfl) rfl (by simp [Value.oneCell']) ?_
                intro wz hgz huz
                have HNG := Lib.hid (show w.heap.size < wr.heap.size from lt_of_block HQd.out.blk)
                have HN := Lib.hid (StpOwn.mk hgz (owns_base (own_store how huz hgB (by decide)) HB6.out.size) (owns_base (own_store hos huz hgB (by decide)) HB6.out.size))
                have HQ7 := Lib.hid (HQ5.out.upd huz hgB (by have := HNG.out; omega))
                have HK7 := Lib.hid (blk_upd HK5.out huz (fun e => by have h2 : gk < wr.heap.size := lt_of_block HKd.out; omega))
                have HB7 := Lib.hid (below_upd HB5.out huz (by have := HNG.out; omega) HB5.out.size)
                (refine hK.out _ _ (fun w' => w'.cell? ⟨w.heap.size, 0, none⟩ = some (.string q.ref) ∧ w'.cell? ⟨w.heap.size, 1, none⟩ = some (.string q.old) ∧ w'.cell? ⟨w.heap.size, 2, none⟩ = some (.string q.new) ∧ w'.cell? ⟨w.heap.size, 3, none⟩ = some (.slice q1 q.who.length q2) ∧ w'.cell? ⟨w.heap.size, 4, none⟩ = some (.slice q3 q.seals.length q4) ∧ w'.cell? ⟨bz, oz + n, none⟩ = some (.int .i64 (m : Int)) ∧ w'.cell? ⟨bk, ok + m, none⟩ = some (.string y)) (.inl fun _ h => h) ((let h := stp_cells HQ7.out.blk; ⟨h.1, h.2.1, h.2.2.1, h.2.2.2.1, h.2.2.2.2.1, HZC.out _ HB7.out, HKC.out _ HB7.out⟩)) ?_; clear hK K; try simp only [Act.put, List.setIfInBounds_toArray, List.set_cons_zero, List.set_cons_succ])
                obtain ⟨nb, hnb⟩ : ∃ nb, nb = wr.heap.size := ⟨_, rfl⟩
                rw [← hnb] at HN HNG
                try rw [← hnb]
                clear hnb hgz huz hbA hgA hgB hb how hos HQ5 HQ6 HK5 HK6 HB5 HB6
                repeat (first | (refine Twin.ro_q (by rfl) (v := ?_) ?_ ?_; rotate_left; (focus (intro w' hSw; (try dsimp only at hSw); go_simp; try with_reducible rfl)); simp only [Act.put, List.setIfInBounds_toArray, List.set_cons_zero, List.set_cons_succ]) | (refine Twin.ro_skip (by rfl) ?_; simp only [Act.put, List.setIfInBounds_toArray, List.set_cons_zero, List.set_cons_succ]))
                refine Twin.ro_nil ?_)
              all_goals (
                by_cases hf : f = 0
                · subst hf
                  obtain ⟨P2, hx, hp2, hr2⟩ := HSN.out rfl
                  have HP2 := Lib.hid hp2
                  have HR2 := Lib.hid hr2
                  clear hp2 hr2
                  obtain ⟨d0, d1, d2, d3, d4, _, _⟩ := stp_cells HN.out.blk
                  have HXE := Lib.hid hx
                  clear hx
                  go_wp2_with (refine wpList_store_blk (by rfl) 25 (.tmp 5) (.tmp 73) rfl w.heap.size #[.string x.ref, .string x.old, .string x.new, .slice x1 x.who.length x2, .slice x3 x.seals.length x4] rfl rfl (old := _) HQ7.out.blk (by kernel_rfl) rfl (by simp [Value.oneCell']) ?_; intro wy hgy huy)
                  have HQ8 := Lib.hid (StpOwn.mk hgy (own_store HN.out.ow huy HQ7.out.blk (by decide)) (own_store HN.out.os huy HQ7.out.blk (by decide)))
                  have hxe := HXE.out
                  subst hxe
                  have HK8 := Lib.hid (blk_upd HK7.out huy (by have := HKG.out; omega))
                  have HB8 := Lib.hid (below_upd HB7.out huy (Nat.le_refl _) HB7.out.size)
                  clear hgy huy d0 d1 d2 d3 d4
                  go_roundw
                  case rel => exact ⟨n + 1, P2, _, _, _, _, _, by have := HN8.out; omega, by first | rfl | (rw [hw1]; rfl), Lib.hid rfl, HP2, HR2, HQ8, HK8, HB8⟩
                  case measure => exact meas_step (n := 8) _ (by first | rfl | exact hw1) HN8.out
                · have n1 : (f == 0) = false := beq_eq_false_iff_ne.2 hf
                  clear hf
                  go_wp2_with fail
                  go_roundw
                  case rel => exact ⟨n + 1, P, q, _, _, _, _, by have := HN8.out; omega, by first | rfl | (rw [hw1]; rfl), HQE, HP, HR, HQ7, HK7, HB7⟩
                  case measure => exact meas_step (n := 8) _ (by first | rfl | exact hw1) HN8.out)
            · have vm : decide ((m : Int) < (ks.length : Int)) = false := decide_eq_false (by omega)
              have vm2 : decide (m < ks.length) = false := decide_eq_false hm
              clear hm
              go_wp2_with fail
              go_roundw
              case rel => exact ⟨n + 1, P, q, _, _, _, _, by have := HN8.out; omega, by first | rfl | (rw [hw1]; rfl), HQE, HP, HR, HQ9, HK9, HB9⟩
              case measure => exact meas_step (n := 8) _ (by first | rfl | exact hw1) HN8.out
          · have v0 : decide (0 ≤ v) = false := decide_eq_false h0
            clear h0
            go_wp2_with fail
            go_roundw
            case rel => exact ⟨n + 1, P, q, _, _, _, _, by have := HN8.out; omega, by first | rfl | (rw [hw1]; rfl), HQE, HP, HR, HQ9, HK9, HB9⟩
            case measure => exact meas_step (n := 8) _ (by first | rfl | exact hw1) HN8.out
        · have h8 : decide ((n : Int) < 8) = false := decide_eq_false (by omega)
          have h82 : decide (n < 8) = false := decide_eq_false hn
          clear hl hn
          by_cases har : at_ < 0 ∨ 200 ≤ at_
          · by_cases ha0 : at_ < 0
            · have a0 : decide (at_ < 0) = true := decide_eq_true ha0
              go_wp2_with fail
              (with_reducible refine (steps_any _ (HT.out.below HB9.out)).mono ?_)
              rintro e w10 ⟨rfl, hb⟩
              have HB10 := Lib.hid (HB9.out.trans (hb.mono HB9.out.size))
              clear hb
              go_wp2_with fail
              go_ret
              exact ⟨rfl, HB10.out⟩
            · have a0 : decide (at_ < 0) = false := decide_eq_false ha0
              have a1 : decide (200 ≤ at_) = true := decide_eq_true (by omega)
              go_wp2_with fail
              (with_reducible refine (steps_any _ (HT.out.below HB9.out)).mono ?_)
              rintro e w10 ⟨rfl, hb⟩
              have HB10 := Lib.hid (HB9.out.trans (hb.mono HB9.out.size))
              clear hb
              go_wp2_with fail
              go_ret
              exact ⟨rfl, HB10.out⟩
          · have a0 : decide (at_ < 0) = false := decide_eq_false (by omega)
            have a1 : decide (200 ≤ at_) = false := decide_eq_false (by omega)
            have ha : 0 ≤ at_ ∧ at_ < 200 := by omega
            have HA := Lib.hid ha
            have HCQ := Lib.hid (fun need => checks_q (q := q) (ks := ks) need HHD.out HP.out ha HR.out HQE.out)
            have HWL := Lib.hid (show q.who.length ≤ 8 by rw [HQE.out]; simpa [stpOf] using HP.out.len)
            have HBQ := Lib.hid (show bodyF at_ q = (bodyB at_.toNat s, 0) by rw [HQE.out]; unfold bodyF; rw [if_neg har]; rfl)
            have HHQ := Lib.hid (show headOk q = true by rw [HQE.out]; exact HHD.out)
            clear har ha
            go_wp2_with fail
            (with_reducible refine (steps_any _ (HT.out.below HB9.out)).mono ?_)
            rintro e w10 ⟨rfl, hb⟩
            have HQ10 := Lib.hid (HQ9.out.below hb)
            have HK10 := Lib.hid (blk_below HK9.out hb)
            have HB10 := Lib.hid (HB9.out.trans (hb.mono HB9.out.size))
            clear hb
            obtain ⟨c0, c1, c2, c3, c4, _, _⟩ := stp_cells HQ10.out.blk
            obtain ⟨k0, k1, k2⟩ := key_cells HK10.out
            have kz := key_fr HK10.out
            obtain ⟨w11, hw11⟩ : ∃ W, w10.setCell ⟨gk, 2, none⟩ (.int .i64 ((q.who.length : Int))) = W := ⟨_, rfl⟩
            have HK11 := Lib.hid (key_set HK10.out hw11)
            have HQ11 := Lib.hid (own_set2 HQ10.out HK10.out (by have := HKG.out; omega) hw11)
            have HB11 := Lib.hid (show Below w.heap.size w w11 by rw [← hw11]; exact HB10.out.setCell (p := ⟨gk, 2, none⟩) (Nat.le_of_lt HKG.out) _)
            obtain ⟨d0, d1, d2, d3, d4, _, _⟩ := stp_cells HQ11.out.blk
            obtain ⟨l0, l1, l2⟩ := key_cells HK11.out
            have lz := key_fr HK11.out
            go_wp2_with fail
            clear d0 d1 d2 d3 d4 l0 l1 l2 lz
            have hck := checkStp_any ks [] ((q.who.length : Int)) at_ q (.slice kb ks.length kc) (.slice none 0 0) (.slice q1 q.who.length q2) (.slice q3 q.seals.length q4) w11 (HKR.out _ HB11.out) (rdS_nil0 _) (rdI_owns HQ11.out.ow) (rdS_owns HQ11.out.os) HKS.out (HT.out.below HB11.out)
            rw [HCQ.out, if_neg (Int.lt_irrefl _)] at hck
            (with_reducible refine hck.mono ?_)
            rintro e w12 ⟨rfl, hb⟩
            clear hck c0 c1 c2 c3 c4 k0 k1 k2 kz
            have HQ12 := Lib.hid (HQ11.out.below hb)
            have HK12 := Lib.hid (blk_below HK11.out hb)
            have HB12 := Lib.hid (HB11.out.trans (hb.mono HB11.out.size))
            clear hb
            obtain ⟨c0, c1, c2, c3, c4, _, _⟩ := stp_cells HQ12.out.blk
            obtain ⟨k0, k1, k2⟩ := key_cells HK12.out
            have kz := key_fr HK12.out
            have hs1 : wrap64 ((q.who.length : Int) + 1) = (q.who.length : Int) + 1 := IntWalk.wrap64_in _ (by have := HWL.out; omega)
            obtain ⟨w13, hw13⟩ : ∃ W, w12.setCell ⟨gk, 2, none⟩ (.int .i64 ((q.who.length : Int) + 1)) = W := ⟨_, rfl⟩
            have HK13 := Lib.hid (key_set HK12.out hw13)
            have HQ13 := Lib.hid (own_set2 HQ12.out HK12.out (by have := HKG.out; omega) hw13)
            have HB13 := Lib.hid (show Below w.heap.size w w13 by rw [← hw13]; exact HB12.out.setCell (p := ⟨gk, 2, none⟩) (Nat.le_of_lt HKG.out) _)
            obtain ⟨d0, d1, d2, d3, d4, _, _⟩ := stp_cells HQ13.out.blk
            obtain ⟨l0, l1, l2⟩ := key_cells HK13.out
            have lz := key_fr HK13.out
            go_wp2_with fail
            clear d0 d1 d2 d3 d4 l0 l1 l2 lz
            have hck := checkStp_any ks [] ((q.who.length : Int) + 1) at_ q (.slice kb ks.length kc) (.slice none 0 0) (.slice q1 q.who.length q2) (.slice q3 q.seals.length q4) w13 (HKR.out _ HB13.out) (rdS_nil0 _) (rdI_owns HQ13.out.ow) (rdS_owns HQ13.out.os) HKS.out (HT.out.below HB13.out)
            rw [HCQ.out, if_pos (Int.lt_succ _)] at hck
            (with_reducible refine hck.mono ?_)
            rintro e w14 ⟨rfl, hb⟩
            clear hck c0 c1 c2 c3 c4 k0 k1 k2 kz
            have HQ14 := Lib.hid (HQ13.out.below hb)
            have HK14 := Lib.hid (blk_below HK13.out hb)
            have HB14 := Lib.hid (HB13.out.trans (hb.mono HB13.out.size))
            clear hb
            obtain ⟨c0, c1, c2, c3, c4, _, _⟩ := stp_cells HQ14.out.blk
            obtain ⟨k0, k1, k2⟩ := key_cells HK14.out
            have kz := key_fr HK14.out
            by_cases hoo : ot < 0 ∨ 200 ≤ ot ∨ ot = at_ ∨ q.who.length = 0
            · by_cases t0 : ot < 0
              · have o0 : decide (ot < 0) = true := decide_eq_true (by omega)
                go_wp2_with fail
                go_ret
                exact ⟨rfl, HB14.out⟩
              · by_cases t1 : 200 ≤ ot
                · have o0 : decide (ot < 0) = false := decide_eq_false (by omega)
                  have o1 : decide (200 ≤ ot) = true := decide_eq_true (by omega)
                  go_wp2_with fail
                  go_ret
                  exact ⟨rfl, HB14.out⟩
                · by_cases t2 : ot = at_
                  · have o0 : decide (ot < 0) = false := decide_eq_false (by omega)
                    have o1 : decide (200 ≤ ot) = false := decide_eq_false (by omega)
                    have o2 : (ot == at_) = true := beq_iff_eq.2 (by omega)
                    go_wp2_with fail
                    go_ret
                    exact ⟨rfl, HB14.out⟩
                  · have o0 : decide (ot < 0) = false := decide_eq_false (by omega)
                    have o1 : decide (200 ≤ ot) = false := decide_eq_false (by omega)
                    have o2 : (ot == at_) = false := beq_eq_false_iff_ne.2 (by omega)
                    have o3 : ((q.who.length : Int) == 0) = true := beq_iff_eq.2 (by omega)
                    go_wp2_with fail
                    go_ret
                    exact ⟨rfl, HB14.out⟩
            · have o0 : decide (ot < 0) = false := decide_eq_false (by omega)
              have o1 : decide (200 ≤ ot) = false := decide_eq_false (by omega)
              have o2 : (ot == at_) = false := beq_eq_false_iff_ne.2 (by omega)
              have o3 : ((q.who.length : Int) == 0) = false := beq_eq_false_iff_ne.2 (by omega)
              have HO := Lib.hid (show 0 ≤ ot ∧ ot < 200 by omega)
              have HNE := Lib.hid (show ot ≠ at_ by omega)
              have HPL := Lib.hid (show 0 < q.who.length by omega)
              clear hoo
              have HCO := Lib.hid (check_other sealF HHD.out HP.out (by intro e; have h := HPL.out; rw [HQE.out, e] at h; simp [stpOf] at h) HA.out HO.out HR.out)
              rw [← HQE.out] at HCO
              have HBO := Lib.hid (show bodyF ot q = (bodyB ot.toNat s, 0) by rw [HQE.out]; unfold bodyF; rw [if_neg (by have := HO.out; omega)]; rfl)
              have HBN := Lib.hid (show bodyB at_.toNat s ≠ bodyB ot.toNat s from fun e => by have h1 := HA.out; have h2 := HO.out; have h3 := HNE.out; have := body_ne (m := at_.toNat) (n := ot.toNat) (by omega) (by omega) s e; omega)
              have HBZ := Lib.hid (show (bodyB at_.toNat s).size ≤ 140737488355328 ∧ (bodyB ot.toNat s).size ≤ 140737488355328 from ⟨body_size (by have := HA.out; omega) HHD.out, body_size (by have := HO.out; omega) HHD.out⟩)
              obtain ⟨ba, hba⟩ : ∃ ba, ba = bodyB at_.toNat s := ⟨_, rfl⟩
              obtain ⟨bb, hbb⟩ : ∃ bb, bb = bodyB ot.toNat s := ⟨_, rfl⟩
              rw [← hba] at HBQ HBN HBZ HCO
              rw [← hbb] at HBO HBN HBZ HCO
              clear hba hbb
              have bn : (ba.toList == bb.toList) = false := beq_eq_false_iff_ne.2 (fun e => HBN.out (toList_inj e))
              obtain ⟨m, hmk, hm0⟩ := first_q HQE.out HP.out HR.out HPL.out
              have HMK := Lib.hid hmk
              have HM0 := Lib.hid hm0
              rw [hm0] at HCO
              skip
              clear hmk hm0
              obtain ⟨y, hy⟩ : ∃ y, y = ks.getD m noB := ⟨_, rfl⟩
              rw [show (m : Int).toNat = m from rfl, ← hy] at HCO
              have HYS := Lib.hid (show y.size ≤ 140737488355328 by rw [hy]; exact HKS.out m HMK.out)
              have hmi : (m : Int) < (ks.length : Int) := by have := HMK.out; omega
              have hm0 : (0 : Int) ≤ (m : Int) := by omega
              have hqi : (0 : Int) < (q.who.length : Int) := by have := HPL.out; omega
              have hqn : 0 < q.who.length := HPL.out
              obtain ⟨w15, hw15⟩ : ∃ W, w14.setCell ⟨gk, 2, none⟩ (.int .i64 (0)) = W := ⟨_, rfl⟩
              have HK15 := Lib.hid (key_set HK14.out hw15)
              have HQ15 := Lib.hid (own_set2 HQ14.out HK14.out (by have := HKG.out; omega) hw15)
              have HB15 := Lib.hid (show Below w.heap.size w w15 by rw [← hw15]; exact HB14.out.setCell (p := ⟨gk, 2, none⟩) (Nat.le_of_lt HKG.out) _)
              obtain ⟨d0, d1, d2, d3, d4, _, _⟩ := stp_cells HQ15.out.blk
              obtain ⟨l0, l1, l2⟩ := key_cells HK15.out
              have lz := key_fr HK15.out
              go_wp2_with fail
              clear d0 d1 d2 d3 d4 l0 l1 l2 lz c0 c1 c2 c3 c4 k0 k1 k2 kz
              have hbd := bodyStp_any at_ q (.slice q1 q.who.length q2) (.slice q3 q.seals.length q4) w15 HHQ.out
              simp only [HBQ.out] at hbd
              (with_reducible refine hbd.mono ?_)
              rintro e w16 ⟨rfl, hb⟩
              have HQ16 := Lib.hid (HQ15.out.below hb)
              have HK16 := Lib.hid (blk_below HK15.out hb)
              have HB16 := Lib.hid (HB15.out.trans (Below.mono hb HB15.out.size))
              clear hb hbd
              obtain ⟨c0, c1, c2, c3, c4, _, _⟩ := stp_cells HQ16.out.blk
              obtain ⟨k0, k1, k2⟩ := key_cells HK16.out
              have kz := key_fr HK16.out
              go_wp2_with fail
              clear c0 c1 c2 c3 c4 k0 k1 k2 kz
              have hbd := bodyStp_any ot q (.slice q1 q.who.length q2) (.slice q3 q.seals.length q4) w16 HHQ.out
              simp only [HBO.out] at hbd
              (with_reducible refine hbd.mono ?_)
              rintro e w17 ⟨rfl, hb⟩
              have HQ17 := Lib.hid (HQ16.out.below hb)
              have HK17 := Lib.hid (blk_below HK16.out hb)
              have HB17 := Lib.hid (HB16.out.trans (Below.mono hb HB16.out.size))
              clear hb hbd
              obtain ⟨bk, ok, h1, _, _⟩ := rdS_at' (HKR.out _ HB17.out) (by have := HMK.out; omega)
              subst h1
              have HKC := Lib.hid (fun wr (h : Below w.heap.size w wr) => ((rdS_cell (HKR.out wr h) HMK.out).trans (by rw [← hy]) : wr.cell? ⟨bk, ok + m, none⟩ = some (.string y)))
              obtain ⟨bq, oq, h1, _, _⟩ := rdI_at (rdI_owns HQ17.out.ow) HPL.out
              subst h1
              have HWC := Lib.hid (fun wr (h : StpOwn wr w.heap.size w.heap.size q (.slice (some ⟨bq, oq, none⟩) q.who.length q2) (.slice q3 q.seals.length q4)) => ((rdI_cell (n := 0) (rdI_owns h.ow) HPL.out).trans (by rw [HM0.out]) : wr.cell? ⟨bq, oq, none⟩ = some (.int .i64 (m : Int))))
              clear hy
              have HQd := Lib.hid (HQ17.out.below (Below.refl _ _).drew)
              have HKd := Lib.hid (blk_below HK17.out (Below.refl _ _).drew)
              have HBd := Lib.hid (HB17.out.trans (Below.mono (Below.refl _ _).drew HB17.out.size))
              obtain ⟨cv, hcv⟩ : ∃ cv, cv = checkF sealF ks 0 ot q := ⟨_, rfl⟩
              rw [← hcv] at HCO
              have HCV := Lib.hid hcv
              clear hcv
              go_wp2_with fail
              refine Lone.wp_region_order [(0, false), (1, false), (2, false), (3, false), (4, false), (5, false), (6, false), (7, true), (8, false), (9, false), (10, false), (11, false), (12, false), (13, false), (14, false), (15, false), (16, false), (17, false), (19, false), (20, false), (21, false), (22, false), (23, false), (24, false), (25, false), (26, false), (18, true), (27, true), (28, false), (29, false), (30, false), (31, false)] (fun w' => w'.cell? ⟨w.heap.size, 0, none⟩ = some (.string q.ref) ∧ w'.cell? ⟨w.heap.size, 1, none⟩ = some (.string q.old) ∧ w'.cell? ⟨w.heap.size, 2, none⟩ = some (.string q.new) ∧ w'.cell? ⟨w.heap.size, 3, none⟩ = some (.slice (some ⟨bq, oq, none⟩) q.who.length q2) ∧ w'.cell? ⟨w.heap.size, 4, none⟩ = some (.slice q3 q.seals.length q4) ∧ w'.cell? ⟨gk, 0, none⟩ = some (.slice (some ⟨bk, ok, none⟩) ks.length kc) ∧ w'.cell? ⟨gk, 1, none⟩ = some (.slice none 0 0) ∧ w'.cell? ⟨gk, 2, none⟩ = some (.int .i64 0) ∧ w'.cell? ⟨bq, oq, none⟩ = some (.int .i64 (m : Int)) ∧ w'.cell? ⟨bk, ok + m, none⟩ = some (.string y)) (by kernel_rfl) (by kernel_rfl) rfl (by kernel_rfl) (by intro _ _ d _ _ h; cases d <;> exact h) ((let h := stp_cells HQd.out.blk; let k := key_cells HKd.out; ⟨h.1, h.2.1, h.2.2.1, h.2.2.2.1, h.2.2.2.2.1, k.1, k.2.1, k.2.2, HWC.out _ HQd.out, HKC.out _ HBd.out⟩)) ?_; simp only [List.map_cons, List.map_nil, List.getElem?_toArray, List.getElem?_cons_zero, List.getElem?_cons_succ, Option.getD_some]
              repeat (first | (refine Lone.ro_q (by rfl) (v := ?_) ?_ ?_; rotate_left; (focus (intro w' hSw; (try dsimp only at hSw); go_simp; try with_reducible rfl)); simp only [Act.put, List.setIfInBounds_toArray, List.set_cons_zero, List.set_cons_succ]) | (refine Lone.ro_skip (by rfl) ?_; simp only [Act.put, List.setIfInBounds_toArray, List.set_cons_zero, List.set_cons_succ]))
              (refine Lone.ro_loud (by rfl) (fun K hK => ?_); go_simp)
              have hck := checkStp_any ks [] 0 ot q (.slice (some ⟨bk, ok, none⟩) ks.length kc) (.slice none 0 0) (.slice (some ⟨bq, oq, none⟩) q.who.length q2) (.slice q3 q.seals.length q4) w17.drew (HKR.out _ HBd.out) (rdS_nil0 _) (rdI_owns HQd.out.ow) (rdS_owns HQd.out.os) HKS.out (HT.out.below HBd.out)
              rw [← HCV.out] at hck
              (with_reducible refine hck.mono ?_)
              rintro e w18 ⟨rfl, hb⟩
              clear hck
              have HQ18 := Lib.hid (HQd.out.below hb)
              have HK18 := Lib.hid (blk_below HKd.out hb)
              have HB18 := Lib.hid (HBd.out.trans (Below.mono hb HBd.out.size))
              clear hb
              (refine hK.out _ _ (fun w' => w'.cell? ⟨w.heap.size, 0, none⟩ = some (.string q.ref) ∧ w'.cell? ⟨w.heap.size, 1, none⟩ = some (.string q.old) ∧ w'.cell? ⟨w.heap.size, 2, none⟩ = some (.string q.new) ∧ w'.cell? ⟨w.heap.size, 3, none⟩ = some (.slice (some ⟨bq, oq, none⟩) q.who.length q2) ∧ w'.cell? ⟨w.heap.size, 4, none⟩ = some (.slice q3 q.seals.length q4) ∧ w'.cell? ⟨gk, 0, none⟩ = some (.slice (some ⟨bk, ok, none⟩) ks.length kc) ∧ w'.cell? ⟨gk, 1, none⟩ = some (.slice none 0 0) ∧ w'.cell? ⟨gk, 2, none⟩ = some (.int .i64 0) ∧ w'.cell? ⟨bq, oq, none⟩ = some (.int .i64 (m : Int)) ∧ w'.cell? ⟨bk, ok + m, none⟩ = some (.string y)) (.inl fun _ h => h) ((let h := stp_cells HQ18.out.blk; let k := key_cells HK18.out; ⟨h.1, h.2.1, h.2.2.1, h.2.2.2.1, h.2.2.2.2.1, k.1, k.2.1, k.2.2, HWC.out _ HQ18.out, HKC.out _ HB18.out⟩)) ?_; clear hK K; try simp only [Act.put, List.setIfInBounds_toArray, List.set_cons_zero, List.set_cons_succ])
              by_cases hv : cv = 13
              · have vb : (cv == 13) = true := beq_iff_eq.2 hv
                clear hv
                repeat (first | (refine Lone.ro_q (by rfl) (v := ?_) ?_ ?_; rotate_left; (focus (intro w' hSw; (try dsimp only at hSw); go_simp; try with_reducible rfl)); simp only [Act.put, List.setIfInBounds_toArray, List.set_cons_zero, List.set_cons_succ]) | (refine Lone.ro_skip (by rfl) ?_; simp only [Act.put, List.setIfInBounds_toArray, List.set_cons_zero, List.set_cons_succ]))
                (refine Lone.ro_skipL (by rfl) (let h := stp_cells HQ18.out.blk; let k := key_cells HK18.out; ⟨h.1, h.2.1, h.2.2.1, h.2.2.2.1, h.2.2.2.2.1, k.1, k.2.1, k.2.2, HWC.out _ HQ18.out, HKC.out _ HB18.out⟩) ?_; simp only [Act.put, List.setIfInBounds_toArray, List.set_cons_zero, List.set_cons_succ])
                (refine Lone.ro_skipL (by rfl) (let h := stp_cells HQ18.out.blk; let k := key_cells HK18.out; ⟨h.1, h.2.1, h.2.2.1, h.2.2.2.1, h.2.2.2.2.1, k.1, k.2.1, k.2.2, HWC.out _ HQ18.out, HKC.out _ HB18.out⟩) ?_; simp only [Act.put, List.setIfInBounds_toArray, List.set_cons_zero, List.set_cons_succ])
                repeat (first | (refine Lone.ro_q (by rfl) (v := ?_) ?_ ?_; rotate_left; (focus (intro w' hSw; (try dsimp only at hSw); go_simp; try with_reducible rfl)); simp only [Act.put, List.setIfInBounds_toArray, List.set_cons_zero, List.set_cons_succ]) | (refine Lone.ro_skip (by rfl) ?_; simp only [Act.put, List.setIfInBounds_toArray, List.set_cons_zero, List.set_cons_succ]))
                (refine Lone.ro_nil ?_; go_wp2_with fail)
                go_ret
                exact ⟨rfl, HB18.out⟩
              · have vb : (cv == 13) = false := beq_eq_false_iff_ne.2 hv
                have hse := HCO.out.resolve_left hv
                have sb : ((sealF y ba).toList == (sealF y bb).toList) = true := by rw [hse]; exact beq_self_eq_true _
                clear hv hse
                repeat (first | (refine Lone.ro_q (by rfl) (v := ?_) ?_ ?_; rotate_left; (focus (intro w' hSw; (try dsimp only at hSw); go_simp; try with_reducible rfl)); simp only [Act.put, List.setIfInBounds_toArray, List.set_cons_zero, List.set_cons_succ]) | (refine Lone.ro_skip (by rfl) ?_; simp only [Act.put, List.setIfInBounds_toArray, List.set_cons_zero, List.set_cons_succ]))
                (refine Lone.ro_loud (by rfl) (fun K hK => ?_); go_simp)
                (with_reducible refine (seal_any y ba _ HBZ.out.1 HYS.out (HT.out.below HB18.out)).mono ?_)
                rintro e w19 ⟨rfl, hb⟩
                have HQ19 := Lib.hid (HQ18.out.below hb)
                have HK19 := Lib.hid (blk_below HK18.out hb)
                have HB19 := Lib.hid (HB18.out.trans (Below.mono hb HB18.out.size))
                clear hb
                (refine hK.out _ _ (fun w' => w'.cell? ⟨w.heap.size, 0, none⟩ = some (.string q.ref) ∧ w'.cell? ⟨w.heap.size, 1, none⟩ = some (.string q.old) ∧ w'.cell? ⟨w.heap.size, 2, none⟩ = some (.string q.new) ∧ w'.cell? ⟨w.heap.size, 3, none⟩ = some (.slice (some ⟨bq, oq, none⟩) q.who.length q2) ∧ w'.cell? ⟨w.heap.size, 4, none⟩ = some (.slice q3 q.seals.length q4) ∧ w'.cell? ⟨gk, 0, none⟩ = some (.slice (some ⟨bk, ok, none⟩) ks.length kc) ∧ w'.cell? ⟨gk, 1, none⟩ = some (.slice none 0 0) ∧ w'.cell? ⟨gk, 2, none⟩ = some (.int .i64 0) ∧ w'.cell? ⟨bq, oq, none⟩ = some (.int .i64 (m : Int)) ∧ w'.cell? ⟨bk, ok + m, none⟩ = some (.string y)) (.inl fun _ h => h) ((let h := stp_cells HQ19.out.blk; let k := key_cells HK19.out; ⟨h.1, h.2.1, h.2.2.1, h.2.2.2.1, h.2.2.2.2.1, k.1, k.2.1, k.2.2, HWC.out _ HQ19.out, HKC.out _ HB19.out⟩)) ?_; clear hK K; try simp only [Act.put, List.setIfInBounds_toArray, List.set_cons_zero, List.set_cons_succ])
                (refine Lone.ro_loud (by rfl) (fun K hK => ?_); go_simp)
                (with_reducible refine (seal_any y bb _ HBZ.out.2 HYS.out (HT.out.below HB19.out)).mono ?_)
                rintro e w20 ⟨rfl, hb⟩
                have HQ20 := Lib.hid (HQ19.out.below hb)
                have HK20 := Lib.hid (blk_below HK19.out hb)
                have HB20 := Lib.hid (HB19.out.trans (Below.mono hb HB19.out.size))
                clear hb
                (refine hK.out _ _ (fun w' => w'.cell? ⟨w.heap.size, 0, none⟩ = some (.string q.ref) ∧ w'.cell? ⟨w.heap.size, 1, none⟩ = some (.string q.old) ∧ w'.cell? ⟨w.heap.size, 2, none⟩ = some (.string q.new) ∧ w'.cell? ⟨w.heap.size, 3, none⟩ = some (.slice (some ⟨bq, oq, none⟩) q.who.length q2) ∧ w'.cell? ⟨w.heap.size, 4, none⟩ = some (.slice q3 q.seals.length q4) ∧ w'.cell? ⟨gk, 0, none⟩ = some (.slice (some ⟨bk, ok, none⟩) ks.length kc) ∧ w'.cell? ⟨gk, 1, none⟩ = some (.slice none 0 0) ∧ w'.cell? ⟨gk, 2, none⟩ = some (.int .i64 0) ∧ w'.cell? ⟨bq, oq, none⟩ = some (.int .i64 (m : Int)) ∧ w'.cell? ⟨bk, ok + m, none⟩ = some (.string y)) (.inl fun _ h => h) ((let h := stp_cells HQ20.out.blk; let k := key_cells HK20.out; ⟨h.1, h.2.1, h.2.2.1, h.2.2.2.1, h.2.2.2.2.1, k.1, k.2.1, k.2.2, HWC.out _ HQ20.out, HKC.out _ HB20.out⟩)) ?_; clear hK K; try simp only [Act.put, List.setIfInBounds_toArray, List.set_cons_zero, List.set_cons_succ])
                repeat (first | (refine Lone.ro_q (by rfl) (v := ?_) ?_ ?_; rotate_left; (focus (intro w' hSw; (try dsimp only at hSw); go_simp; try with_reducible rfl)); simp only [Act.put, List.setIfInBounds_toArray, List.set_cons_zero, List.set_cons_succ]) | (refine Lone.ro_skip (by rfl) ?_; simp only [Act.put, List.setIfInBounds_toArray, List.set_cons_zero, List.set_cons_succ]))
                (refine Lone.ro_nil ?_; go_wp2_with fail)
                go_ret
                exact ⟨rfl, HB20.out⟩
      · have hkl : decide ((n : Int) < (zs.length : Int)) = false := decide_eq_false (by omega)
        have hkl2 : decide (n < zs.length) = false := decide_eq_false hl
        clear hl
        by_cases har : at_ < 0 ∨ 200 ≤ at_
        · by_cases ha0 : at_ < 0
          · have a0 : decide (at_ < 0) = true := decide_eq_true ha0
            go_wp2_with fail
            (with_reducible refine (steps_any _ (HT.out.below HB9.out)).mono ?_)
            rintro e w10 ⟨rfl, hb⟩
            have HB10 := Lib.hid (HB9.out.trans (hb.mono HB9.out.size))
            clear hb
            go_wp2_with fail
            go_ret
            exact ⟨rfl, HB10.out⟩
          · have a0 : decide (at_ < 0) = false := decide_eq_false ha0
            have a1 : decide (200 ≤ at_) = true := decide_eq_true (by omega)
            go_wp2_with fail
            (with_reducible refine (steps_any _ (HT.out.below HB9.out)).mono ?_)
            rintro e w10 ⟨rfl, hb⟩
            have HB10 := Lib.hid (HB9.out.trans (hb.mono HB9.out.size))
            clear hb
            go_wp2_with fail
            go_ret
            exact ⟨rfl, HB10.out⟩
        · have a0 : decide (at_ < 0) = false := decide_eq_false (by omega)
          have a1 : decide (200 ≤ at_) = false := decide_eq_false (by omega)
          have ha : 0 ≤ at_ ∧ at_ < 200 := by omega
          have HA := Lib.hid ha
          have HCQ := Lib.hid (fun need => checks_q (q := q) (ks := ks) need HHD.out HP.out ha HR.out HQE.out)
          have HWL := Lib.hid (show q.who.length ≤ 8 by rw [HQE.out]; simpa [stpOf] using HP.out.len)
          have HBQ := Lib.hid (show bodyF at_ q = (bodyB at_.toNat s, 0) by rw [HQE.out]; unfold bodyF; rw [if_neg har]; rfl)
          have HHQ := Lib.hid (show headOk q = true by rw [HQE.out]; exact HHD.out)
          clear har ha
          go_wp2_with fail
          (with_reducible refine (steps_any _ (HT.out.below HB9.out)).mono ?_)
          rintro e w10 ⟨rfl, hb⟩
          have HQ10 := Lib.hid (HQ9.out.below hb)
          have HK10 := Lib.hid (blk_below HK9.out hb)
          have HB10 := Lib.hid (HB9.out.trans (hb.mono HB9.out.size))
          clear hb
          obtain ⟨c0, c1, c2, c3, c4, _, _⟩ := stp_cells HQ10.out.blk
          obtain ⟨k0, k1, k2⟩ := key_cells HK10.out
          have kz := key_fr HK10.out
          obtain ⟨w11, hw11⟩ : ∃ W, w10.setCell ⟨gk, 2, none⟩ (.int .i64 ((q.who.length : Int))) = W := ⟨_, rfl⟩
          have HK11 := Lib.hid (key_set HK10.out hw11)
          have HQ11 := Lib.hid (own_set2 HQ10.out HK10.out (by have := HKG.out; omega) hw11)
          have HB11 := Lib.hid (show Below w.heap.size w w11 by rw [← hw11]; exact HB10.out.setCell (p := ⟨gk, 2, none⟩) (Nat.le_of_lt HKG.out) _)
          obtain ⟨d0, d1, d2, d3, d4, _, _⟩ := stp_cells HQ11.out.blk
          obtain ⟨l0, l1, l2⟩ := key_cells HK11.out
          have lz := key_fr HK11.out
          go_wp2_with fail
          clear d0 d1 d2 d3 d4 l0 l1 l2 lz
          have hck := checkStp_any ks [] ((q.who.length : Int)) at_ q (.slice kb ks.length kc) (.slice none 0 0) (.slice q1 q.who.length q2) (.slice q3 q.seals.length q4) w11 (HKR.out _ HB11.out) (rdS_nil0 _) (rdI_owns HQ11.out.ow) (rdS_owns HQ11.out.os) HKS.out (HT.out.below HB11.out)
          rw [HCQ.out, if_neg (Int.lt_irrefl _)] at hck
          (with_reducible refine hck.mono ?_)
          rintro e w12 ⟨rfl, hb⟩
          clear hck c0 c1 c2 c3 c4 k0 k1 k2 kz
          have HQ12 := Lib.hid (HQ11.out.below hb)
          have HK12 := Lib.hid (blk_below HK11.out hb)
          have HB12 := Lib.hid (HB11.out.trans (hb.mono HB11.out.size))
          clear hb
          obtain ⟨c0, c1, c2, c3, c4, _, _⟩ := stp_cells HQ12.out.blk
          obtain ⟨k0, k1, k2⟩ := key_cells HK12.out
          have kz := key_fr HK12.out
          have hs1 : wrap64 ((q.who.length : Int) + 1) = (q.who.length : Int) + 1 := IntWalk.wrap64_in _ (by have := HWL.out; omega)
          obtain ⟨w13, hw13⟩ : ∃ W, w12.setCell ⟨gk, 2, none⟩ (.int .i64 ((q.who.length : Int) + 1)) = W := ⟨_, rfl⟩
          have HK13 := Lib.hid (key_set HK12.out hw13)
          have HQ13 := Lib.hid (own_set2 HQ12.out HK12.out (by have := HKG.out; omega) hw13)
          have HB13 := Lib.hid (show Below w.heap.size w w13 by rw [← hw13]; exact HB12.out.setCell (p := ⟨gk, 2, none⟩) (Nat.le_of_lt HKG.out) _)
          obtain ⟨d0, d1, d2, d3, d4, _, _⟩ := stp_cells HQ13.out.blk
          obtain ⟨l0, l1, l2⟩ := key_cells HK13.out
          have lz := key_fr HK13.out
          go_wp2_with fail
          clear d0 d1 d2 d3 d4 l0 l1 l2 lz
          have hck := checkStp_any ks [] ((q.who.length : Int) + 1) at_ q (.slice kb ks.length kc) (.slice none 0 0) (.slice q1 q.who.length q2) (.slice q3 q.seals.length q4) w13 (HKR.out _ HB13.out) (rdS_nil0 _) (rdI_owns HQ13.out.ow) (rdS_owns HQ13.out.os) HKS.out (HT.out.below HB13.out)
          rw [HCQ.out, if_pos (Int.lt_succ _)] at hck
          (with_reducible refine hck.mono ?_)
          rintro e w14 ⟨rfl, hb⟩
          clear hck c0 c1 c2 c3 c4 k0 k1 k2 kz
          have HQ14 := Lib.hid (HQ13.out.below hb)
          have HK14 := Lib.hid (blk_below HK13.out hb)
          have HB14 := Lib.hid (HB13.out.trans (hb.mono HB13.out.size))
          clear hb
          obtain ⟨c0, c1, c2, c3, c4, _, _⟩ := stp_cells HQ14.out.blk
          obtain ⟨k0, k1, k2⟩ := key_cells HK14.out
          have kz := key_fr HK14.out
          by_cases hoo : ot < 0 ∨ 200 ≤ ot ∨ ot = at_ ∨ q.who.length = 0
          · by_cases t0 : ot < 0
            · have o0 : decide (ot < 0) = true := decide_eq_true (by omega)
              go_wp2_with fail
              go_ret
              exact ⟨rfl, HB14.out⟩
            · by_cases t1 : 200 ≤ ot
              · have o0 : decide (ot < 0) = false := decide_eq_false (by omega)
                have o1 : decide (200 ≤ ot) = true := decide_eq_true (by omega)
                go_wp2_with fail
                go_ret
                exact ⟨rfl, HB14.out⟩
              · by_cases t2 : ot = at_
                · have o0 : decide (ot < 0) = false := decide_eq_false (by omega)
                  have o1 : decide (200 ≤ ot) = false := decide_eq_false (by omega)
                  have o2 : (ot == at_) = true := beq_iff_eq.2 (by omega)
                  go_wp2_with fail
                  go_ret
                  exact ⟨rfl, HB14.out⟩
                · have o0 : decide (ot < 0) = false := decide_eq_false (by omega)
                  have o1 : decide (200 ≤ ot) = false := decide_eq_false (by omega)
                  have o2 : (ot == at_) = false := beq_eq_false_iff_ne.2 (by omega)
                  have o3 : ((q.who.length : Int) == 0) = true := beq_iff_eq.2 (by omega)
                  go_wp2_with fail
                  go_ret
                  exact ⟨rfl, HB14.out⟩
          · have o0 : decide (ot < 0) = false := decide_eq_false (by omega)
            have o1 : decide (200 ≤ ot) = false := decide_eq_false (by omega)
            have o2 : (ot == at_) = false := beq_eq_false_iff_ne.2 (by omega)
            have o3 : ((q.who.length : Int) == 0) = false := beq_eq_false_iff_ne.2 (by omega)
            have HO := Lib.hid (show 0 ≤ ot ∧ ot < 200 by omega)
            have HNE := Lib.hid (show ot ≠ at_ by omega)
            have HPL := Lib.hid (show 0 < q.who.length by omega)
            clear hoo
            have HCO := Lib.hid (check_other sealF HHD.out HP.out (by intro e; have h := HPL.out; rw [HQE.out, e] at h; simp [stpOf] at h) HA.out HO.out HR.out)
            rw [← HQE.out] at HCO
            have HBO := Lib.hid (show bodyF ot q = (bodyB ot.toNat s, 0) by rw [HQE.out]; unfold bodyF; rw [if_neg (by have := HO.out; omega)]; rfl)
            have HBN := Lib.hid (show bodyB at_.toNat s ≠ bodyB ot.toNat s from fun e => by have h1 := HA.out; have h2 := HO.out; have h3 := HNE.out; have := body_ne (m := at_.toNat) (n := ot.toNat) (by omega) (by omega) s e; omega)
            have HBZ := Lib.hid (show (bodyB at_.toNat s).size ≤ 140737488355328 ∧ (bodyB ot.toNat s).size ≤ 140737488355328 from ⟨body_size (by have := HA.out; omega) HHD.out, body_size (by have := HO.out; omega) HHD.out⟩)
            obtain ⟨ba, hba⟩ : ∃ ba, ba = bodyB at_.toNat s := ⟨_, rfl⟩
            obtain ⟨bb, hbb⟩ : ∃ bb, bb = bodyB ot.toNat s := ⟨_, rfl⟩
            rw [← hba] at HBQ HBN HBZ HCO
            rw [← hbb] at HBO HBN HBZ HCO
            clear hba hbb
            have bn : (ba.toList == bb.toList) = false := beq_eq_false_iff_ne.2 (fun e => HBN.out (toList_inj e))
            obtain ⟨m, hmk, hm0⟩ := first_q HQE.out HP.out HR.out HPL.out
            have HMK := Lib.hid hmk
            have HM0 := Lib.hid hm0
            rw [hm0] at HCO
            skip
            clear hmk hm0
            obtain ⟨y, hy⟩ : ∃ y, y = ks.getD m noB := ⟨_, rfl⟩
            rw [show (m : Int).toNat = m from rfl, ← hy] at HCO
            have HYS := Lib.hid (show y.size ≤ 140737488355328 by rw [hy]; exact HKS.out m HMK.out)
            have hmi : (m : Int) < (ks.length : Int) := by have := HMK.out; omega
            have hm0 : (0 : Int) ≤ (m : Int) := by omega
            have hqi : (0 : Int) < (q.who.length : Int) := by have := HPL.out; omega
            have hqn : 0 < q.who.length := HPL.out
            obtain ⟨w15, hw15⟩ : ∃ W, w14.setCell ⟨gk, 2, none⟩ (.int .i64 (0)) = W := ⟨_, rfl⟩
            have HK15 := Lib.hid (key_set HK14.out hw15)
            have HQ15 := Lib.hid (own_set2 HQ14.out HK14.out (by have := HKG.out; omega) hw15)
            have HB15 := Lib.hid (show Below w.heap.size w w15 by rw [← hw15]; exact HB14.out.setCell (p := ⟨gk, 2, none⟩) (Nat.le_of_lt HKG.out) _)
            obtain ⟨d0, d1, d2, d3, d4, _, _⟩ := stp_cells HQ15.out.blk
            obtain ⟨l0, l1, l2⟩ := key_cells HK15.out
            have lz := key_fr HK15.out
            go_wp2_with fail
            clear d0 d1 d2 d3 d4 l0 l1 l2 lz c0 c1 c2 c3 c4 k0 k1 k2 kz
            have hbd := bodyStp_any at_ q (.slice q1 q.who.length q2) (.slice q3 q.seals.length q4) w15 HHQ.out
            simp only [HBQ.out] at hbd
            (with_reducible refine hbd.mono ?_)
            rintro e w16 ⟨rfl, hb⟩
            have HQ16 := Lib.hid (HQ15.out.below hb)
            have HK16 := Lib.hid (blk_below HK15.out hb)
            have HB16 := Lib.hid (HB15.out.trans (Below.mono hb HB15.out.size))
            clear hb hbd
            obtain ⟨c0, c1, c2, c3, c4, _, _⟩ := stp_cells HQ16.out.blk
            obtain ⟨k0, k1, k2⟩ := key_cells HK16.out
            have kz := key_fr HK16.out
            go_wp2_with fail
            clear c0 c1 c2 c3 c4 k0 k1 k2 kz
            have hbd := bodyStp_any ot q (.slice q1 q.who.length q2) (.slice q3 q.seals.length q4) w16 HHQ.out
            simp only [HBO.out] at hbd
            (with_reducible refine hbd.mono ?_)
            rintro e w17 ⟨rfl, hb⟩
            have HQ17 := Lib.hid (HQ16.out.below hb)
            have HK17 := Lib.hid (blk_below HK16.out hb)
            have HB17 := Lib.hid (HB16.out.trans (Below.mono hb HB16.out.size))
            clear hb hbd
            obtain ⟨bk, ok, h1, _, _⟩ := rdS_at' (HKR.out _ HB17.out) (by have := HMK.out; omega)
            subst h1
            have HKC := Lib.hid (fun wr (h : Below w.heap.size w wr) => ((rdS_cell (HKR.out wr h) HMK.out).trans (by rw [← hy]) : wr.cell? ⟨bk, ok + m, none⟩ = some (.string y)))
            obtain ⟨bq, oq, h1, _, _⟩ := rdI_at (rdI_owns HQ17.out.ow) HPL.out
            subst h1
            have HWC := Lib.hid (fun wr (h : StpOwn wr w.heap.size w.heap.size q (.slice (some ⟨bq, oq, none⟩) q.who.length q2) (.slice q3 q.seals.length q4)) => ((rdI_cell (n := 0) (rdI_owns h.ow) HPL.out).trans (by rw [HM0.out]) : wr.cell? ⟨bq, oq, none⟩ = some (.int .i64 (m : Int))))
            clear hy
            have HQd := Lib.hid (HQ17.out.below (Below.refl _ _).drew)
            have HKd := Lib.hid (blk_below HK17.out (Below.refl _ _).drew)
            have HBd := Lib.hid (HB17.out.trans (Below.mono (Below.refl _ _).drew HB17.out.size))
            obtain ⟨cv, hcv⟩ : ∃ cv, cv = checkF sealF ks 0 ot q := ⟨_, rfl⟩
            rw [← hcv] at HCO
            have HCV := Lib.hid hcv
            clear hcv
            go_wp2_with fail
            refine Lone.wp_region_order [(0, false), (1, false), (2, false), (3, false), (4, false), (5, false), (6, false), (7, true), (8, false), (9, false), (10, false), (11, false), (12, false), (13, false), (14, false), (15, false), (16, false), (17, false), (19, false), (20, false), (21, false), (22, false), (23, false), (24, false), (25, false), (26, false), (18, true), (27, true), (28, false), (29, false), (30, false), (31, false)] (fun w' => w'.cell? ⟨w.heap.size, 0, none⟩ = some (.string q.ref) ∧ w'.cell? ⟨w.heap.size, 1, none⟩ = some (.string q.old) ∧ w'.cell? ⟨w.heap.size, 2, none⟩ = some (.string q.new) ∧ w'.cell? ⟨w.heap.size, 3, none⟩ = some (.slice (some ⟨bq, oq, none⟩) q.who.length q2) ∧ w'.cell? ⟨w.heap.size, 4, none⟩ = some (.slice q3 q.seals.length q4) ∧ w'.cell? ⟨gk, 0, none⟩ = some (.slice (some ⟨bk, ok, none⟩) ks.length kc) ∧ w'.cell? ⟨gk, 1, none⟩ = some (.slice none 0 0) ∧ w'.cell? ⟨gk, 2, none⟩ = some (.int .i64 0) ∧ w'.cell? ⟨bq, oq, none⟩ = some (.int .i64 (m : Int)) ∧ w'.cell? ⟨bk, ok + m, none⟩ = some (.string y)) (by kernel_rfl) (by kernel_rfl) rfl (by kernel_rfl) (by intro _ _ d _ _ h; cases d <;> exact h) ((let h := stp_cells HQd.out.blk; let k := key_cells HKd.out; ⟨h.1, h.2.1, h.2.2.1, h.2.2.2.1, h.2.2.2.2.1, k.1, k.2.1, k.2.2, HWC.out _ HQd.out, HKC.out _ HBd.out⟩)) ?_; simp only [List.map_cons, List.map_nil, List.getElem?_toArray, List.getElem?_cons_zero, List.getElem?_cons_succ, Option.getD_some]
            repeat (first | (refine Lone.ro_q (by rfl) (v := ?_) ?_ ?_; rotate_left; (focus (intro w' hSw; (try dsimp only at hSw); go_simp; try with_reducible rfl)); simp only [Act.put, List.setIfInBounds_toArray, List.set_cons_zero, List.set_cons_succ]) | (refine Lone.ro_skip (by rfl) ?_; simp only [Act.put, List.setIfInBounds_toArray, List.set_cons_zero, List.set_cons_succ]))
            (refine Lone.ro_loud (by rfl) (fun K hK => ?_); go_simp)
            have hck := checkStp_any ks [] 0 ot q (.slice (some ⟨bk, ok, none⟩) ks.length kc) (.slice none 0 0) (.slice (some ⟨bq, oq, none⟩) q.who.length q2) (.slice q3 q.seals.length q4) w17.drew (HKR.out _ HBd.out) (rdS_nil0 _) (rdI_owns HQd.out.ow) (rdS_owns HQd.out.os) HKS.out (HT.out.below HBd.out)
            rw [← HCV.out] at hck
            (with_reducible refine hck.mono ?_)
            rintro e w18 ⟨rfl, hb⟩
            clear hck
            have HQ18 := Lib.hid (HQd.out.below hb)
            have HK18 := Lib.hid (blk_below HKd.out hb)
            have HB18 := Lib.hid (HBd.out.trans (Below.mono hb HBd.out.size))
            clear hb
            (refine hK.out _ _ (fun w' => w'.cell? ⟨w.heap.size, 0, none⟩ = some (.string q.ref) ∧ w'.cell? ⟨w.heap.size, 1, none⟩ = some (.string q.old) ∧ w'.cell? ⟨w.heap.size, 2, none⟩ = some (.string q.new) ∧ w'.cell? ⟨w.heap.size, 3, none⟩ = some (.slice (some ⟨bq, oq, none⟩) q.who.length q2) ∧ w'.cell? ⟨w.heap.size, 4, none⟩ = some (.slice q3 q.seals.length q4) ∧ w'.cell? ⟨gk, 0, none⟩ = some (.slice (some ⟨bk, ok, none⟩) ks.length kc) ∧ w'.cell? ⟨gk, 1, none⟩ = some (.slice none 0 0) ∧ w'.cell? ⟨gk, 2, none⟩ = some (.int .i64 0) ∧ w'.cell? ⟨bq, oq, none⟩ = some (.int .i64 (m : Int)) ∧ w'.cell? ⟨bk, ok + m, none⟩ = some (.string y)) (.inl fun _ h => h) ((let h := stp_cells HQ18.out.blk; let k := key_cells HK18.out; ⟨h.1, h.2.1, h.2.2.1, h.2.2.2.1, h.2.2.2.2.1, k.1, k.2.1, k.2.2, HWC.out _ HQ18.out, HKC.out _ HB18.out⟩)) ?_; clear hK K; try simp only [Act.put, List.setIfInBounds_toArray, List.set_cons_zero, List.set_cons_succ])
            by_cases hv : cv = 13
            · have vb : (cv == 13) = true := beq_iff_eq.2 hv
              clear hv
              repeat (first | (refine Lone.ro_q (by rfl) (v := ?_) ?_ ?_; rotate_left; (focus (intro w' hSw; (try dsimp only at hSw); go_simp; try with_reducible rfl)); simp only [Act.put, List.setIfInBounds_toArray, List.set_cons_zero, List.set_cons_succ]) | (refine Lone.ro_skip (by rfl) ?_; simp only [Act.put, List.setIfInBounds_toArray, List.set_cons_zero, List.set_cons_succ]))
              (refine Lone.ro_skipL (by rfl) (let h := stp_cells HQ18.out.blk; let k := key_cells HK18.out; ⟨h.1, h.2.1, h.2.2.1, h.2.2.2.1, h.2.2.2.2.1, k.1, k.2.1, k.2.2, HWC.out _ HQ18.out, HKC.out _ HB18.out⟩) ?_; simp only [Act.put, List.setIfInBounds_toArray, List.set_cons_zero, List.set_cons_succ])
              (refine Lone.ro_skipL (by rfl) (let h := stp_cells HQ18.out.blk; let k := key_cells HK18.out; ⟨h.1, h.2.1, h.2.2.1, h.2.2.2.1, h.2.2.2.2.1, k.1, k.2.1, k.2.2, HWC.out _ HQ18.out, HKC.out _ HB18.out⟩) ?_; simp only [Act.put, List.setIfInBounds_toArray, List.set_cons_zero, List.set_cons_succ])
              repeat (first | (refine Lone.ro_q (by rfl) (v := ?_) ?_ ?_; rotate_left; (focus (intro w' hSw; (try dsimp only at hSw); go_simp; try with_reducible rfl)); simp only [Act.put, List.setIfInBounds_toArray, List.set_cons_zero, List.set_cons_succ]) | (refine Lone.ro_skip (by rfl) ?_; simp only [Act.put, List.setIfInBounds_toArray, List.set_cons_zero, List.set_cons_succ]))
              (refine Lone.ro_nil ?_; go_wp2_with fail)
              go_ret
              exact ⟨rfl, HB18.out⟩
            · have vb : (cv == 13) = false := beq_eq_false_iff_ne.2 hv
              have hse := HCO.out.resolve_left hv
              have sb : ((sealF y ba).toList == (sealF y bb).toList) = true := by rw [hse]; exact beq_self_eq_true _
              clear hv hse
              repeat (first | (refine Lone.ro_q (by rfl) (v := ?_) ?_ ?_; rotate_left; (focus (intro w' hSw; (try dsimp only at hSw); go_simp; try with_reducible rfl)); simp only [Act.put, List.setIfInBounds_toArray, List.set_cons_zero, List.set_cons_succ]) | (refine Lone.ro_skip (by rfl) ?_; simp only [Act.put, List.setIfInBounds_toArray, List.set_cons_zero, List.set_cons_succ]))
              (refine Lone.ro_loud (by rfl) (fun K hK => ?_); go_simp)
              (with_reducible refine (seal_any y ba _ HBZ.out.1 HYS.out (HT.out.below HB18.out)).mono ?_)
              rintro e w19 ⟨rfl, hb⟩
              have HQ19 := Lib.hid (HQ18.out.below hb)
              have HK19 := Lib.hid (blk_below HK18.out hb)
              have HB19 := Lib.hid (HB18.out.trans (Below.mono hb HB18.out.size))
              clear hb
              (refine hK.out _ _ (fun w' => w'.cell? ⟨w.heap.size, 0, none⟩ = some (.string q.ref) ∧ w'.cell? ⟨w.heap.size, 1, none⟩ = some (.string q.old) ∧ w'.cell? ⟨w.heap.size, 2, none⟩ = some (.string q.new) ∧ w'.cell? ⟨w.heap.size, 3, none⟩ = some (.slice (some ⟨bq, oq, none⟩) q.who.length q2) ∧ w'.cell? ⟨w.heap.size, 4, none⟩ = some (.slice q3 q.seals.length q4) ∧ w'.cell? ⟨gk, 0, none⟩ = some (.slice (some ⟨bk, ok, none⟩) ks.length kc) ∧ w'.cell? ⟨gk, 1, none⟩ = some (.slice none 0 0) ∧ w'.cell? ⟨gk, 2, none⟩ = some (.int .i64 0) ∧ w'.cell? ⟨bq, oq, none⟩ = some (.int .i64 (m : Int)) ∧ w'.cell? ⟨bk, ok + m, none⟩ = some (.string y)) (.inl fun _ h => h) ((let h := stp_cells HQ19.out.blk; let k := key_cells HK19.out; ⟨h.1, h.2.1, h.2.2.1, h.2.2.2.1, h.2.2.2.2.1, k.1, k.2.1, k.2.2, HWC.out _ HQ19.out, HKC.out _ HB19.out⟩)) ?_; clear hK K; try simp only [Act.put, List.setIfInBounds_toArray, List.set_cons_zero, List.set_cons_succ])
              (refine Lone.ro_loud (by rfl) (fun K hK => ?_); go_simp)
              (with_reducible refine (seal_any y bb _ HBZ.out.2 HYS.out (HT.out.below HB19.out)).mono ?_)
              rintro e w20 ⟨rfl, hb⟩
              have HQ20 := Lib.hid (HQ19.out.below hb)
              have HK20 := Lib.hid (blk_below HK19.out hb)
              have HB20 := Lib.hid (HB19.out.trans (Below.mono hb HB19.out.size))
              clear hb
              (refine hK.out _ _ (fun w' => w'.cell? ⟨w.heap.size, 0, none⟩ = some (.string q.ref) ∧ w'.cell? ⟨w.heap.size, 1, none⟩ = some (.string q.old) ∧ w'.cell? ⟨w.heap.size, 2, none⟩ = some (.string q.new) ∧ w'.cell? ⟨w.heap.size, 3, none⟩ = some (.slice (some ⟨bq, oq, none⟩) q.who.length q2) ∧ w'.cell? ⟨w.heap.size, 4, none⟩ = some (.slice q3 q.seals.length q4) ∧ w'.cell? ⟨gk, 0, none⟩ = some (.slice (some ⟨bk, ok, none⟩) ks.length kc) ∧ w'.cell? ⟨gk, 1, none⟩ = some (.slice none 0 0) ∧ w'.cell? ⟨gk, 2, none⟩ = some (.int .i64 0) ∧ w'.cell? ⟨bq, oq, none⟩ = some (.int .i64 (m : Int)) ∧ w'.cell? ⟨bk, ok + m, none⟩ = some (.string y)) (.inl fun _ h => h) ((let h := stp_cells HQ20.out.blk; let k := key_cells HK20.out; ⟨h.1, h.2.1, h.2.2.1, h.2.2.2.1, h.2.2.2.2.1, k.1, k.2.1, k.2.2, HWC.out _ HQ20.out, HKC.out _ HB20.out⟩)) ?_; clear hK K; try simp only [Act.put, List.setIfInBounds_toArray, List.set_cons_zero, List.set_cons_succ])
              repeat (first | (refine Lone.ro_q (by rfl) (v := ?_) ?_ ?_; rotate_left; (focus (intro w' hSw; (try dsimp only at hSw); go_simp; try with_reducible rfl)); simp only [Act.put, List.setIfInBounds_toArray, List.set_cons_zero, List.set_cons_succ]) | (refine Lone.ro_skip (by rfl) ?_; simp only [Act.put, List.setIfInBounds_toArray, List.set_cons_zero, List.set_cons_succ]))
              (refine Lone.ro_nil ?_; go_wp2_with fail)
              go_ret
              exact ⟨rfl, HB20.out⟩
  · have n1 : (e0 == 0) = false := beq_eq_false_iff_ne.2 hz
    have n2 : (e0 != 0) = true := by rw [bne, n1]; rfl
    clear hz
    go_wp2_with (refine wpList_store_blk (by rfl) 34 (.tmp 12) (.tmp 25) rfl w1.heap.size #[.slice kb ks.length kc, .slice none 0 0, .int .i64 (0)] rfl rfl (old := _) (heap_alloc_new _ _) (by kernel_rfl) rfl (by simp [Value.oneCell']) ?_; intro w2 hgz huz; have hbz := below_upd ((Below.refl w1.heap.size w1).alloc (Nat.le_refl _) _) huz (Nat.le_refl _) (by simp); have HK2 := Lib.hid hgz; have HG2 := Lib.hid (blk_below HG1.out hbz); have HB2 := Lib.hid (HB1.out.trans (hbz.mono HB1.out.size)); clear hgz huz hbz)
    go_loopw [13] (fun i wr => i = .int .i64 0 ∧ Hid (Below w.heap.size w wr)) (fun _ _ => 0)
    case atStart => exact ⟨rfl, HB2⟩
    case round =>
      clear HB1 HB2 HG1 HG2
      obtain ⟨rfl, HB9⟩ := hrel
      by_cases hz0 : 0 < zs.length
      · have z0 : decide ((0 : Int) < (zs.length : Int)) = true := decide_eq_true (by omega)
        go_wp2_with fail
        (with_reducible refine (steps_any _ (HT.out.below HB9.out)).mono ?_)
        rintro e w10 ⟨rfl, hb⟩
        have HB10 := Lib.hid (HB9.out.trans (hb.mono HB9.out.size))
        clear hb
        go_wp2_with fail
        go_ret
        exact ⟨rfl, HB10.out⟩
      · have z0 : decide ((0 : Int) < (zs.length : Int)) = false := decide_eq_false (by omega)
        go_wp2_with fail
        (with_reducible refine (steps_any _ (HT.out.below HB9.out)).mono ?_)
        rintro e w10 ⟨rfl, hb⟩
        have HB10 := Lib.hid (HB9.out.trans (hb.mono HB9.out.size))
        clear hb
        go_wp2_with fail
        go_ret
        exact ⟨rfl, HB10.out⟩
end Go.Proofs.YtinhjnbgblieeaaDoor
