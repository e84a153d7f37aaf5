/- HeadQuorum: a head is right just with a quorum of marks. -/
import Derived.Test.YtinhjnbgblieeaaDoorHead5
import Derived.Test.YtinhjnbgblieeaaDoorHdA
import Derived.Test.YtinhjnbgblieeaaDoorRegion3
import Derived.Test.YtinhjnbgblieeaaDoorBas
namespace Go.Proofs.YtinhjnbgblieeaaDoor
open Go.RowKit
set_option linter.unusedVariables false
set_option linter.unusedSimpArgs false

theorem wp_store_blkQ {P : Program} {w : World} {o : Oper} {a : Act} {K : Act → World → Prop} {Q : Exit → Act → World → Prop} (ty : TypeId) (x y : Operand) (ho : o.op = .store ty x y)
    (g : Nat) (cells : Array Value) (hx : a.eval x = .pointer (some ⟨g, 0, none⟩)) (hy : a.eval y = .agg cells)
    {t : TypeId} {old : Array Value} (hg : w.heap[g]? = some (.cells old t (0, 0))) (hi : (P.info? ty).map (·.size) = some cells.size)
    (hold : old.size = cells.size) (h1 : cells.all (·.oneCell') = true)
    (h : ∀ w' : World, w'.heap[g]? = some (.cells cells t (0, 0)) → Upd (· = g) w w' → K (a.put o.dst undef) w') : o.wp P a w K Q :=
  wp_store_row ty x y ho g cells hx hy t old hg hi hold h1 (h _ (setRow_heap w g old cells t (0, 0) hg) (upd_setRow cells))
/-- A sealed head in a block of its own, its marks in memory from B on. -/
structure SldOwn (w : World) (B q : Nat) (n : Int) (r : ByteArray) (M : List (Int × ByteArray)) (vm : Value) : Prop where
  blk : w.heap[q]? = some (.cells #[.int .i64 n, .string r, vm] 45 (0, 0))
  own : w.ownsRow B 47 2 vm M.length (gvs mkC M)
theorem SldOwn.below {w w' : World} {B q : Nat} {n : Int} {r : ByteArray} {M : List (Int × ByteArray)} {vm : Value} (h : SldOwn w B q n r M vm) (hb : Below w.heap.size w w') : SldOwn w' B q n r M vm :=
  ⟨blk_below h.blk hb, owns_below h.own hb⟩
theorem SldOwn.upd {w w' : World} {B q g : Nat} {n : Int} {r : ByteArray} {M : List (Int × ByteArray)} {vm : Value} (h : SldOwn w B q n r M vm) (hu : Upd (· = g) w w') (h1 : q ≠ g) (h2 : ∀ k, vm.ownBlock = some k → k ≠ g) : SldOwn w' B q n r M vm :=
  ⟨blk_upd h.blk hu h1, owns_upd h.own hu h2⟩
theorem sld_ne {w : World} {base : Nat} {e t : TypeId} {size : Nat} {v : Value} {n : Nat} {xs : List Value} {b : Nat} {cs : Array Value} {fr : Nat × Nat} (h : w.ownsRow base e size v n xs) (hb : w.heap[b]? = some (.cells cs t fr)) (hne : e ≠ t) : v.ownBlock ≠ some b := by
  intro k
  obtain ⟨_, cs2, f2, hc⟩ := owns_elem h k
  rw [hc] at hb
  injection hb with hb
  injection hb with h1 h2
  exact hne h2
theorem info_mark : infoIs Tryd.prog 47 (.agg #[.int .i64 0, .string ⟨#[]⟩]) 2 24 := by unfold infoIs; kernel_rfl
def hasI (zs : List Int) (x : Int) : Bool := decide (x ∈ zs)
theorem mem_take_succ {zs : List Int} {i : Nat} (h : i < zs.length) (x : Int) : hasI (zs.take (i + 1)) x = (hasI (zs.take i) x || (zs.getD i 0 == x)) := by
  unfold hasI
  rw [List.take_succ_eq_append_getElem h, List.getD, List.getElem?_eq_getElem h, Bool.eq_iff_iff]
  simp only [decide_eq_true_eq, Bool.or_eq_true, List.mem_append, List.mem_singleton, Option.getD_some, beq_iff_eq]
  constructor
  · rintro (h | h)
    · exact .inl h
    · exact .inr h.symm
  · rintro (h | h)
    · exact .inl h
    · exact .inr h.symm
theorem frz0 {w : World} {g i : Nat} {cs : Array Value} {t : TypeId} (h : w.heap[g]? = some (.cells cs t (0, 0))) : w.frozen? ⟨g, i, none⟩ = false := by
  simp [World.frozen?, h]
theorem marks_first {ks : List ByteArray} {t : ByteArray} {M : List (Int × ByteArray)} {sl : ByteArray → ByteArray → ByteArray} (h : GoodM sl ks t 4 M) (hM : 0 < M.length) : 0 ≤ mkW M 0 ∧ mkW M 0 < 4 := by
  have hp := h.1 M[0] (List.getElem_mem hM)
  have e : mkW M 0 = M[0].1 := by unfold mkW; rw [List.getD, List.getElem?_eq_getElem hM]; rfl
  rw [e]
  exact ⟨hp.1, hp.2.1⟩
theorem marks_first_cell {w : World} {bm om m2 : Nat} {M : List (Int × ByteArray)} (hr : rdG 2 mkC w (.slice (some ⟨bm, om, none⟩) M.length m2) M) (hM : 0 < M.length) : w.cell? ⟨bm, om, none⟩ = some (.int .i64 (mkW M 0)) := by
  obtain ⟨b', o', e, _, hc⟩ := marks_at hr hM
  simp only [Option.some.injEq, Addr.mk.injEq, and_true] at e
  obtain ⟨rfl, rfl⟩ := e
  have := (hc 0 hM).1
  simpa using this
set_option maxRecDepth 100000 in
set_option maxHeartbeats 3200000 in
theorem headQuorum_walk {w : World} (ht : Tab w) (n : Int) (r : ByteArray)
    (kv : Value) (kn : Nat) (ks : List ByteArray) (fk : rdRow w 1 kv kn (ks.map .string)) (gk_ : ∀ s ∈ ks, s.size ≤ 140737488351232) (mk : kn * 16 ≤ 140737488351232)
    (zv : Value) (zn : Nat) (zs : List Int) (fz : rdRow w 1 zv zn (zs.map (.int .i64))) (gz : ∀ n ∈ zs, (Lit.int .i64 n).wf = true) (mz : zn * 8 ≤ 140737488351232) (root : ByteArray) (fr : root.size ≤ 140737488351232) :
    Calls Tryd.prog 5 #[.agg #[.int .i64 n, .string r], kv, zv, .string root] w fun e w' => e = .returned (.bool true) ∧ Below w.heap.size w w' := by
  obtain rfl : zs.length = zn := by simpa using fz.1
  obtain rfl : ks.length = kn := by simpa using fk.1
  obtain ⟨zb, zc, rfl⟩ := rd_form fz
  obtain ⟨kb, kc, rfl⟩ := rd_form fk
  have HT := Lib.hid ht
  obtain ⟨W, hW⟩ : ∃ W, w.alloc (.cells #[.int .i64 n, .string r] 41) = W := ⟨_, rfl⟩
  have hg0 : W.heap[w.heap.size]? = some (.cells #[.int .i64 n, .string r] 41 (0, 0)) := by rw [← hW]; exact heap_alloc_new _ _
  have hb1 : Below w.heap.size w W := by rw [← hW]; exact (Below.refl _ _).alloc (Nat.le_refl _) _
  have HW0 := Lib.hid hb1
  have HG := Lib.hid (fun wr (h : Below W.heap.size W wr) => blk_below hg0 h)
  have HZR := Lib.hid (fun wr (h : Below W.heap.size W wr) => rdI.below (show rdI w _ zs from fz) (HW0.out.trans (h.mono HW0.out.size)))
  have HKR := Lib.hid (fun wr (h : Below W.heap.size W wr) => rdS.below (show rdS w _ ks from fk) (HW0.out.trans (h.mono HW0.out.size)))
  have HKS := Lib.hid (show ∀ n, n < ks.length → (ks.getD n noB).size ≤ 140737488355328 from fun n hn => by
    rw [List.getD, List.getElem?_eq_getElem hn]
    have := gk_ _ (List.getElem_mem hn)
    show (ks[n]).size ≤ _; omega)
  have HKN := Lib.hid (show zs.length ≤ 140737488351232 ∧ ks.length ≤ 140737488351232 by omega)
  have HRS := Lib.hid fr
  have HB0 := Lib.hid (Below.refl W.heap.size W)
  have hgd := goodHead_any n r W
  obtain ⟨ge, hge⟩ : ∃ ge, ge = goodH n r := ⟨_, rfl⟩
  rw [← hge] at hgd
  have HGE := Lib.hid hge
  obtain ⟨c0, c1, _, _⟩ := head_cells hg0
  clear ht hg0 hb1 fz gz mz fk gk_ mk fr hge
  go_enter Tryd.func5, Tryd.ntmps5
  go_wp2_with fail
  (with_reducible refine (hgd).mono ?_)
  rintro e w1 ⟨rfl, hb⟩
  have HB1 := Lib.hid (HB0.out.trans (hb.mono HB0.out.size))
  have HL1 := Lib.hid hb
  clear hb
  clear hgd c0 c1 hW
  by_cases hz : ge = 0
  · subst hz
    by_cases h4 : ks.length < 4
    · have d4 : decide ((ks.length : Int) < 4) = true := decide_eq_true (by omega)
      have d5 : decide (ks.length < 4) = true := decide_eq_true h4
      clear h4
      go_wp2_with fail
      (with_reducible refine (heads_any _ (HT.out.below (HW0.out.trans (HB1.out.mono HW0.out.size)))).mono ?_)
      rintro e w9 ⟨rfl, hb⟩
      have HB9 := Lib.hid (HB1.out.trans (hb.mono HB1.out.size))
      clear hb
      go_wp2_with fail
      go_ret
      exact ⟨rfl, HW0.out.trans (HB9.out.mono HW0.out.size)⟩
    · have d4 : decide ((ks.length : Int) < 4) = false := decide_eq_false (by omega)
      have d5 : decide (ks.length < 4) = false := decide_eq_false h4
      have HK4 := Lib.hid (show 4 ≤ ks.length by omega)
      obtain ⟨bk, ok, hbk, _, _⟩ := rdS_at' (HKR.out _ HB1.out) (by omega)
      subst hbk
      clear h4
      go_wp2_with fail
      (with_reducible refine (heads_any _ (HT.out.below (HW0.out.trans (HB1.out.mono HW0.out.size)))).mono ?_)
      rintro e w2 ⟨rfl, hb⟩
      have HB2 := Lib.hid (HB1.out.trans (hb.mono HB1.out.size))
      obtain ⟨c0, c1, _, _⟩ := head_cells (HG.out _ HB2.out)
      clear hb
      go_wp2_with (first | (refine wpList_store_blk (by rfl) 34 (.tmp 9) (.tmp 35) rfl w2.heap.size #[.slice none 0 0, .slice (some ⟨bk, ok, none⟩) ks.length kc, .int .i64 0] rfl rfl (old := _) (heap_alloc_new _ _) (by kernel_rfl) rfl (by simp [Value.oneCell']) ?_; intro wk hgz huz; have hbz := below_upd ((Below.refl w2.heap.size w2).alloc (Nat.le_refl _) _) huz (Nat.le_refl _) (by simp); have HK3 := Lib.hid hgz; have HB3 := Lib.hid (HB2.out.trans (hbz.mono HB2.out.size)); clear hgz huz hbz c0 c1; obtain ⟨c0, c1, _, _⟩ := head_cells (HG.out _ HB3.out)) | (refine wpList_store_blk (by rfl) 45 (.tmp 10) (.tmp 37) rfl wk.heap.size #[.int .i64 n, .string r, .slice none 0 0] rfl rfl (old := _) (heap_alloc_new _ _) (by kernel_rfl) rfl (by simp [Value.oneCell']) ?_; intro wq hgz huz; have hbz := below_upd ((Below.refl wk.heap.size wk).alloc (Nat.le_refl _) _) huz (Nat.le_refl _) (by simp); have HK4b := Lib.hid (blk_below HK3.out hbz); have HB4 := Lib.hid (HB3.out.trans (hbz.mono HB3.out.size)); have HQ4 := Lib.hid (show SldOwn wq W.heap.size wk.heap.size n r [] (.slice none 0 0) from ⟨hgz, World.ownsRow_nil _ _ _ _⟩); clear hgz huz hbz c0 c1))
      obtain ⟨qk, hqk⟩ : ∃ q, q = w2.heap.size := ⟨_, rfl⟩
      obtain ⟨qs, hqs⟩ : ∃ q, q = wk.heap.size := ⟨_, rfl⟩
      have HQB := Lib.hid (show W.heap.size ≤ qs by have := HB3.out.size; omega)
      have HKB := Lib.hid (show W.heap.size ≤ qk by have := HB2.out.size; omega)
      try rw [← hqk]
      try rw [← hqs]
      rw [← hqk] at HK4b HK3
      rw [← hqs] at HQ4
      clear hqk hqs
      go_loopw [11] (fun i wr => ∃ (j : Nat) (vm : Value), j ≤ 4 ∧ i = .int .i64 (j : Int) ∧ Hid (SldOwn wr W.heap.size qs n r (marksF sealF ks (headB n r) zs j) vm) ∧ Hid (wr.heap[qk]? = some (.cells #[.slice none 0 0, .slice (some ⟨bk, ok, none⟩) ks.length kc, .int .i64 0] 34 (0, 0))) ∧ Hid (Below W.heap.size W wr)) (fun i _ => 4 - (intOf i).toNat)
      case atStart => exact ⟨0, _, by omega, rfl, HQ4, HK4b, HB4⟩
      case round =>
        clear HQ4 HK4b HB4 HB3 HK3 HB2
        obtain ⟨j, vm, hj, rfl, HQr, HKr, HBr⟩ := hrel
        by_cases hj4 : j < 4
        · have HJ4 := Lib.hid hj4
          have jb : decide ((j : Int) < 4) = true := decide_eq_true (by omega)
          have jb2 : decide (j < 4) = true := decide_eq_true hj4
          have j0 : (0 : Int) ≤ (j : Int) := by omega
          have ji : (j : Int) < 4 := by omega
          clear hj4 hj
          have HW1 : wrap64 ((j : Int) + 1) = (j : Int) + 1 := IntWalk.wrap64_in _ (by have := HJ4.out; omega)
          go_wp2_with fail
          go_loopw [12, 13] (fun b i wq => ∃ k : Nat, k ≤ zs.length ∧ i = .int .i64 (k : Int) ∧ b = .bool (hasI (zs.take k) (j : Int)) ∧ wq = wr) (fun _ i _ => zs.length - (intOf i).toNat)
          case atStart => exact ⟨0, Nat.zero_le _, rfl, rfl, rfl⟩
          case round =>
            obtain ⟨k, hk, rfl, rfl, rfl⟩ := hrel
            by_cases hkl : k < zs.length
            · have kb : decide ((k : Int) < (zs.length : Int)) = true := decide_eq_true (by omega)
              have ki : (k : Int) < (zs.length : Int) := by omega
              have k0 : (0 : Int) ≤ (k : Int) := by omega
              have hs1 : wrap64 ((k : Int) + 1) = (k : Int) + 1 := IntWalk.wrap64_in _ (by have := HKN.out; omega)
              have HKL := Lib.hid hkl
              obtain ⟨bz, oz, hbz, _, hcz⟩ := rdI_at (HZR.out _ HBr.out) (by omega)
              subst hbz
              have z0 := hcz k hkl
              obtain ⟨x, hx⟩ : ∃ x, x = zs.getD k 0 := ⟨_, rfl⟩
              rw [← hx] at z0
              have HMT := Lib.hid ((mem_take_succ hkl (j : Int)).trans (by rw [← hx]))
              clear hcz hx hkl
              by_cases hin : (j : Int) ∈ zs.take k
              · have ib : hasI (zs.take k) (j : Int) = true := decide_eq_true hin
                rw [ib]
                clear hin
                go_wp2_with fail
                go_roundw
                case rel => exact ⟨k + 1, by have := HKL.out; omega, by first | rfl | (rw [hs1]; rfl), by rw [HMT.out, ib]; first | rfl | (rw [xb]; rfl), by trivial⟩
                case measure => exact meas_step (n := zs.length) _ (by first | rfl | exact hs1) HKL.out
              · have ib : hasI (zs.take k) (j : Int) = false := decide_eq_false hin
                rw [ib]
                clear hin
                by_cases hxj : x = (j : Int)
                · have xb : (x == (j : Int)) = true := beq_iff_eq.2 hxj
                  clear hxj
                  go_wp2_with fail
                  go_roundw
                  case rel => exact ⟨k + 1, by have := HKL.out; omega, by first | rfl | (rw [hs1]; rfl), by rw [HMT.out, ib]; first | rfl | (rw [xb]; rfl), by trivial⟩
                  case measure => exact meas_step (n := zs.length) _ (by first | rfl | exact hs1) HKL.out
                · have xb : (x == (j : Int)) = false := beq_eq_false_iff_ne.2 hxj
                  clear hxj
                  go_wp2_with fail
                  go_roundw
                  case rel => exact ⟨k + 1, by have := HKL.out; omega, by first | rfl | (rw [hs1]; rfl), by rw [HMT.out, ib]; first | rfl | (rw [xb]; rfl), by trivial⟩
                  case measure => exact meas_step (n := zs.length) _ (by first | rfl | exact hs1) HKL.out
            · have kb : decide ((k : Int) < (zs.length : Int)) = false := decide_eq_false (by omega)
              have kb2 : decide (k < zs.length) = false := decide_eq_false hkl
              have htk : zs.take k = zs := List.take_of_length_le (by omega)
              by_cases hin : (j : Int) ∈ zs
              · have ib : hasI zs (j : Int) = true := decide_eq_true hin
                rw [htk, ib]
                clear hkl htk
                obtain ⟨y, hy⟩ : ∃ y, y = ks.getD j noB := ⟨_, rfl⟩
                obtain ⟨Z, hZ⟩ : ∃ Z, Z = sealF y (headW ++ headB n r) := ⟨_, rfl⟩
                have HMQ := Lib.hid (show marksF sealF ks (headB n r) zs (j + 1) = marksF sealF ks (headB n r) zs j ++ [((j : Int), Z)] by rw [marksF, if_pos hin, hZ, hy])
                have HMF := Lib.hid (show markF sealF (j : Int) y n r = (((j : Int), Z), 0) by rw [markF_3 HGE.out.symm (by have := HJ4.out; omega), hZ])
                have HYS := Lib.hid (show y.size ≤ 140737488355328 by rw [hy]; exact HKS.out j (by have := HK4.out; have := HJ4.out; omega))
                have HKC := Lib.hid (fun wr (h : Below W.heap.size W wr) => ((rdS_cl (HKR.out wr h) (show j < ks.length by have := HK4.out; have := HJ4.out; omega)).trans (by rw [← hy]) : wr.cell? ⟨bk, ok + j, none⟩ = some (.string y)))
                have HML := Lib.hid (marksF_len sealF ks (headB n r) zs j)
                have jk : (j : Int) < (ks.length : Int) := by have := HK4.out; have := HJ4.out; omega
                obtain ⟨M, hM⟩ : ∃ M, M = marksF sealF ks (headB n r) zs j := ⟨_, rfl⟩
                rw [← hM] at HMQ HML HQr
                clear hin hy hZ hM
                have HBd := Lib.hid HBr.out.drew
                have HQd := Lib.hid (HQr.out.below (Below.refl _ _).drew)
                have HKd := Lib.hid (blk_below HKr.out (Below.refl _ _).drew)
                go_wp2_with fail
                refine Twin.wp_region_order (.q 0 (.q 1 (.q 2 (.q 3 (.q 4 (.q 5 (.l2 6 10 (.q 7 (.q 8 (.q 9 (.l 10 (.l 11 (.q 12 .nil)))))) (.l 6 (.q 7 (.q 8 (.q 9 (.l 11 (.q 12 .nil))))))))))))) (fun w' => w'.cell? ⟨w.heap.size, 0, none⟩ = some (.int .i64 n) ∧ w'.cell? ⟨w.heap.size, 1, none⟩ = some (.string r) ∧ w'.cell? ⟨bk, ok + j, none⟩ = some (.string y)) (by kernel_rfl) (by kernel_rfl) rfl (by kernel_rfl) (by intro _ _ d _ _ h; cases d <;> exact h) ((let h := head_cells (HG.out _ HBd.out); ⟨h.1, h.2.1, HKC.out _ HBd.out⟩)) ?_; simp only [Twin.Ord.opers, List.getElem?_toArray, List.getElem?_cons_zero, List.getElem?_cons_succ, Option.getD_some]
                repeat (first | (refine Twin.ro_q (by rfl) (v := ?_) ?_ ?_; rotate_left; (focus (intro w' hSw; (try dsimp only at hSw); go_simp; try with_reducible rfl)); simp only [Act.put, List.setIfInBounds_toArray, List.set_cons_zero, List.set_cons_succ]) | (refine Twin.ro_skip (by rfl) ?_; simp only [Act.put, List.setIfInBounds_toArray, List.set_cons_zero, List.set_cons_succ]))
                refine Twin.ro_two ?_ ?_
                focus (
                  skip
                  (refine Twin.ro_loud (by rfl) (fun K hK => ?_); go_simp)
                  have hmk := markHd_any (j : Int) y n r wr.drew HYS.out (HT.out.below (HW0.out.trans (HBd.out.mono HW0.out.size)))
                  rw [HMF.out] at hmk
                  (with_reducible refine hmk.mono ?_)
                  rintro e w5 ⟨rfl, hb⟩
                  clear hmk
                  have HQ5 := Lib.hid (HQd.out.below hb)
                  have HK5 := Lib.hid (blk_below HKd.out hb)
                  have HB5 := Lib.hid (HBd.out.trans (hb.mono HBd.out.size))
                  clear hb
                  (refine hK.out _ _ (fun w' => w'.cell? ⟨w.heap.size, 0, none⟩ = some (.int .i64 n) ∧ w'.cell? ⟨w.heap.size, 1, none⟩ = some (.string r) ∧ w'.cell? ⟨bk, ok + j, none⟩ = some (.string y)) (.inl fun _ h => h) ((let h := head_cells (HG.out _ HB5.out); ⟨h.1, h.2.1, HKC.out _ HB5.out⟩)) ?_; clear hK K; try simp only [Act.put, List.setIfInBounds_toArray, List.set_cons_zero, List.set_cons_succ])
                  repeat (first | (refine Twin.ro_q (by rfl) (v := ?_) ?_ ?_; rotate_left; (focus (intro w' hSw; (try dsimp only at hSw); go_simp; try with_reducible rfl)); simp only [Act.put, List.setIfInBounds_toArray, List.set_cons_zero, List.set_cons_succ]) | (refine Twin.ro_skip (by rfl) ?_; simp only [Act.put, List.setIfInBounds_toArray, List.set_cons_zero, List.set_cons_succ]))
                  (refine Twin.ro_loud (by rfl) (fun K hK => ?_); go_simp)
                  have hb : Below w5.heap.size w5 (w5.alloc (.cells #[.int .i64 0, .string ⟨#[]⟩] 47)) := (Below.refl w5.heap.size w5).alloc (Nat.le_refl _) (.cells #[.int .i64 0, .string ⟨#[]⟩] 47)
                  have HQ6 := Lib.hid (HQ5.out.below hb)
                  have HK6 := Lib.hid (blk_below HK5.out hb)
                  have HB6 := Lib.hid (HB5.out.trans (hb.mono HB5.out.size))
                  (refine hK.out _ _ (fun w' => w'.cell? ⟨w.heap.size, 0, none⟩ = some (.int .i64 n) ∧ w'.cell? ⟨w.heap.size, 1, none⟩ = some (.string r) ∧ w'.cell? ⟨bk, ok + j, none⟩ = some (.string y)) (.inl fun _ h => h) ((let h := head_cells (HG.out _ HB6.out); ⟨h.1, h.2.1, HKC.out _ HB6.out⟩)) ?_; clear hK K; try simp only [Act.put, List.setIfInBounds_toArray, List.set_cons_zero, List.set_cons_succ])
                  (refine Twin.ro_loud (by rfl) (fun K hK => ?_))
                  refine wp_store_blkQ 47 (.tmp 14) (.tmp 66) rfl w5.heap.size #[.int .i64 (j : Int), .string Z] rfl rfl (old := _) (heap_alloc_new _ _) (by kernel_rfl) rfl (by simp [Value.oneCell']) ?_
                  intro wz hgz huz
                  have hbz := below_upd hb huz (Nat.le_refl _) (by simp)
                  clear hb
                  have hb := hbz
                  have HQ7 := Lib.hid (HQ5.out.below hb)
                  have HK7 := Lib.hid (blk_below HK5.out hb)
                  have HB7 := Lib.hid (HB5.out.trans (hb.mono HB5.out.size))
                  have HNG := Lib.hid (show W.heap.size ≤ w5.heap.size from HB5.out.size)
                  have HN := Lib.hid hgz
                  (refine hK.out _ _ (fun w' => w'.cell? ⟨w.heap.size, 0, none⟩ = some (.int .i64 n) ∧ w'.cell? ⟨w.heap.size, 1, none⟩ = some (.string r) ∧ w'.cell? ⟨bk, ok + j, none⟩ = some (.string y)) (.inl fun _ h => h) ((let h := head_cells (HG.out _ HB7.out); ⟨h.1, h.2.1, HKC.out _ HB7.out⟩)) ?_; clear hK K; try simp only [Act.put, List.setIfInBounds_toArray, List.set_cons_zero, List.set_cons_succ])
                  obtain ⟨nb, hnb⟩ : ∃ nb, nb = w5.heap.size := ⟨_, rfl⟩
                  rw [← hnb] at HN HNG
                  try rw [← hnb]
                  clear hnb hgz huz hbz hb HQ5 HQ6 HK5 HK6 HB5 HB6
                  repeat (first | (refine Twin.ro_q (by rfl) (v := ?_) ?_ ?_; rotate_left; (focus (intro w' hSw; (try dsimp only at hSw); go_simp; try with_reducible rfl)); simp only [Act.put, List.setIfInBounds_toArray, List.set_cons_zero, List.set_cons_succ]) | (refine Twin.ro_skip (by rfl) ?_; simp only [Act.put, List.setIfInBounds_toArray, List.set_cons_zero, List.set_cons_succ]))
                  refine Twin.ro_nil ?_)
                rotate_left
                focus (
                  skip
                  (refine Twin.ro_loud (by rfl) (fun K hK => ?_); go_simp)
                  have hb : Below wr.drew.heap.size wr.drew (wr.alloc (.cells #[.int .i64 0, .string ⟨#[]⟩] 47)).drew := (Below.refl wr.drew.heap.size wr.drew).alloc (Nat.le_refl _) (.cells #[.int .i64 0, .string ⟨#[]⟩] 47)
                  have hgA : (wr.alloc (.cells #[.int .i64 0, .string ⟨#[]⟩] 47)).drew.heap[wr.heap.size]? = some (.cells #[.int .i64 0, .string ⟨#[]⟩] 47 (0, 0)) := heap_alloc_new wr.drew (.cells #[.int .i64 0, .string ⟨#[]⟩] 47)
                  have HQ6 := Lib.hid (HQd.out.below hb)
                  have HK6 := Lib.hid (blk_below HKd.out hb)
                  have HB6 := Lib.hid (HBd.out.trans (hb.mono HBd.out.size))
                  clear hb
                  (refine hK.out _ _ (fun w' => w'.cell? ⟨w.heap.size, 0, none⟩ = some (.int .i64 n) ∧ w'.cell? ⟨w.heap.size, 1, none⟩ = some (.string r) ∧ w'.cell? ⟨bk, ok + j, none⟩ = some (.string y)) (.inl fun _ h => h) ((let h := head_cells (HG.out _ HB6.out); ⟨h.1, h.2.1, HKC.out _ HB6.out⟩)) ?_; clear hK K; try simp only [Act.put, List.setIfInBounds_toArray, List.set_cons_zero, List.set_cons_succ])
                  (refine Twin.ro_loud (by rfl) (fun K hK => ?_); go_simp)
                  have hmk := markHd_any (j : Int) y n r (wr.alloc (.cells #[.int .i64 0, .string ⟨#[]⟩] 47)).drew HYS.out (HT.out.below (HW0.out.trans (HB6.out.mono HW0.out.size)))
                  rw [HMF.out] at hmk
                  (with_reducible refine hmk.mono ?_)
                  rintro e w5 ⟨rfl, hb⟩
                  clear hmk
                  have HQ5 := Lib.hid (HQ6.out.below hb)
                  have HK5 := Lib.hid (blk_below HK6.out hb)
                  have HB5 := Lib.hid (HB6.out.trans (hb.mono HB6.out.size))
                  have hgB := blk_below hgA hb
                  clear hb
                  (refine hK.out _ _ (fun w' => w'.cell? ⟨w.heap.size, 0, none⟩ = some (.int .i64 n) ∧ w'.cell? ⟨w.heap.size, 1, none⟩ = some (.string r) ∧ w'.cell? ⟨bk, ok + j, none⟩ = some (.string y)) (.inl fun _ h => h) ((let h := head_cells (HG.out _ HB5.out); ⟨h.1, h.2.1, HKC.out _ HB5.out⟩)) ?_; clear hK K; try simp only [Act.put, List.setIfInBounds_toArray, List.set_cons_zero, List.set_cons_succ])
                  repeat (first | (refine Twin.ro_q (by rfl) (v := ?_) ?_ ?_; rotate_left; (focus (intro w' hSw; (try dsimp only at hSw); go_simp; try with_reducible rfl)); simp only [Act.put, List.setIfInBounds_toArray, List.set_cons_zero, List.set_cons_succ]) | (refine Twin.ro_skip (by rfl) ?_; simp only [Act.put, List.setIfInBounds_toArray, List.set_cons_zero, List.set_cons_succ]))
                  (refine Twin.ro_loud (by rfl) (fun K hK => ?_))
                  refine wp_store_blkQ 47 (.tmp 14) (.tmp 66) rfl wr.heap.size #[.int .i64 (j : Int), .string Z] rfl rfl (old := _) hgB (by kernel_rfl) rfl (by simp [Value.oneCell']) ?_
                  intro wz hgz huz
                  have HNG := Lib.hid (show W.heap.size ≤ wr.heap.size from HBd.out.size)
                  have HQ7 := Lib.hid (HQ5.out.upd huz (fun e => by subst e; have h2 := HQ5.out.blk; rw [hgB] at h2; simp at h2) (fun k hk => by have h2 : k < wr.heap.size := (HQd.out.own.lt k hk).2; omega))
                  have HK7 := Lib.hid (blk_upd HK5.out huz (fun e => by subst e; have h2 := HK5.out; rw [hgB] at h2; simp at h2))
                  have HB7 := Lib.hid (below_upd HB5.out huz HNG.out HB5.out.size)
                  have HN := Lib.hid hgz
                  (refine hK.out _ _ (fun w' => w'.cell? ⟨w.heap.size, 0, none⟩ = some (.int .i64 n) ∧ w'.cell? ⟨w.heap.size, 1, none⟩ = some (.string r) ∧ w'.cell? ⟨bk, ok + j, none⟩ = some (.string y)) (.inl fun _ h => h) ((let h := head_cells (HG.out _ HB7.out); ⟨h.1, h.2.1, HKC.out _ HB7.out⟩)) ?_; clear hK K; try simp only [Act.put, List.setIfInBounds_toArray, List.set_cons_zero, List.set_cons_succ])
                  obtain ⟨nb, hnb⟩ : ∃ nb, nb = wr.heap.size := ⟨_, rfl⟩
                  rw [← hnb] at HN HNG
                  try rw [← hnb]
                  clear hnb hgz huz hgA hgB HQ5 HQ6 HK5 HK6 HB5 HB6
                  repeat (first | (refine Twin.ro_q (by rfl) (v := ?_) ?_ ?_; rotate_left; (focus (intro w' hSw; (try dsimp only at hSw); go_simp; try with_reducible rfl)); simp only [Act.put, List.setIfInBounds_toArray, List.set_cons_zero, List.set_cons_succ]) | (refine Twin.ro_skip (by rfl) ?_; simp only [Act.put, List.setIfInBounds_toArray, List.set_cons_zero, List.set_cons_succ]))
                  refine Twin.ro_nil ?_)
                all_goals (
                  obtain ⟨m1, m2, hvm⟩ := rd_form (rdRow_of_owns HQ7.out.own)
                  subst hvm
                  obtain ⟨d0, d1, _, _⟩ := mark_cells HN.out
                  obtain ⟨e0, e1, e2⟩ := sealed_cells HQ7.out.blk
                  go_wp2_with (first | (at_builtin; refine wpList_append1u rfl _ _ 43 rfl info_mark Tryd.underlying43 rfl (by decide) (by decide) HQ7.out.own HB7.out.size rfl (by simp [Value.oneCell']) (by have := HML.out; have := HJ4.out; show (M.length + 1) * 24 ≤ _; omega) rfl rfl ?_; intro v' w8 hown hupd; have HO8 := Lib.hid (show w8.ownsRow W.heap.size 47 2 v' (M ++ [((j : Int), Z)]).length (gvs mkC (M ++ [((j : Int), Z)])) by rw [gvs_append, List.length_append]; exact hown); have HU8 := Lib.hid hupd; obtain ⟨a8, c8, rfl⟩ := owns_slice HO8.out; clear hown hupd d0 d1 e0 e1 e2; obtain ⟨e0, e1, e2⟩ := sealed_cells (blk_upd HQ7.out.blk HU8.out (sld_ne HQ7.out.own HQ7.out.blk (by decide))); have e3 := frz0 (i := 2) (blk_upd HQ7.out.blk HU8.out (sld_ne HQ7.out.own HQ7.out.blk (by decide)))))
                  have hu9 : Upd (· = qs) w8 (w8.setCell ⟨qs, 2, none⟩ (.slice a8 (M ++ [((j : Int), Z)]).length c8)) := (Upd.refl (fun k => k = qs) w8).setCell (a := ⟨qs, 2, none⟩) (.inl rfl) _
                  have hb8 : Below W.heap.size W w8 := HB7.out.trans (HU8.out.below HB7.out.size (fun k hk => owns_ge HQ7.out.own hk))
                  have hq8 := blk_upd HQ7.out.blk HU8.out (sld_ne HQ7.out.own HQ7.out.blk (by decide))
                  have hk8 := blk_upd HK7.out HU8.out (sld_ne HQ7.out.own HK7.out (by decide))
                  have HQ9 : SldOwn (w8.setCell ⟨qs, 2, none⟩ (.slice a8 (M ++ [((j : Int), Z)]).length c8)) W.heap.size qs n r (M ++ [((j : Int), Z)]) (.slice a8 (M ++ [((j : Int), Z)]).length c8) := ⟨cells_setCell hq8 2 _, owns_upd HO8.out hu9 (fun k hk e => by subst e; exact sld_ne HO8.out hq8 (by decide) hk)⟩
                  have HK9 := Lib.hid (blk_upd hk8 hu9 (fun e => by subst e; rw [hk8] at hq8; simp at hq8))
                  have HB9 := Lib.hid (below_upd hb8 hu9 HQB.out hb8.size)
                  simp only [List.length_append, List.length_cons, List.length_nil, Nat.zero_add] at HQ9 HK9 HB9
                  go_roundw
                  case rel => exact ⟨j + 1, _, by have := HJ4.out; omega, by first | rfl | (rw [HW1]; rfl), Lib.hid (by rw [HMQ.out]; exact HQ9), HK9, HB9⟩
                  case measure => exact meas_step (n := 4) _ (by first | rfl | exact HW1) HJ4.out)
              · have ib : hasI zs (j : Int) = false := decide_eq_false hin
                rw [htk, ib]
                clear hkl htk
                have HMQ := Lib.hid (show marksF sealF ks (headB n r) zs (j + 1) = marksF sealF ks (headB n r) zs j by rw [marksF, if_neg hin])
                clear hin
                go_wp2_with fail
                go_roundw
                case rel => exact ⟨j + 1, vm, by have := HJ4.out; omega, by first | rfl | (rw [HW1]; rfl), Lib.hid (by rw [HMQ.out]; exact HQr.out), HKr, HBr⟩
                case measure => exact meas_step (n := 4) _ (by first | rfl | exact HW1) HJ4.out
        · have jb : decide ((j : Int) < 4) = false := decide_eq_false (by omega)
          have jb2 : decide (j < 4) = false := decide_eq_false hj4
          have HJ := Lib.hid (show j = 4 by omega)
          have hgm := marksF_good sealF ks (headB n r) zs j
          rw [HJ.out] at hgm
          rw [HJ.out] at HQr
          obtain ⟨M, hM⟩ : ∃ M, M = marksF sealF ks (headB n r) zs 4 := ⟨_, rfl⟩
          rw [← hM] at HQr hgm
          have HGM := Lib.hid hgm
          have HML := Lib.hid (show M.length ≤ 4 by rw [hM]; exact marksF_len sealF ks (headB n r) zs 4)
          have HCK := Lib.hid (checkHF_good sealF HGE.out.symm HGM.out HK4.out)
          clear hgm hM hj hj4
          obtain ⟨m1, m2, hvm⟩ := rd_form (rdRow_of_owns HQr.out.own)
          subst hvm
          obtain ⟨e0, e1, e2⟩ := sealed_cells HQr.out.blk
          obtain ⟨k0, k1, k2⟩ := key_cells HKr.out
          have hck := checkHd_any [] ks 0 n r M (.slice none 0 0) _ _ wr (rdS_nil0 _) (HKR.out _ HBr.out) (rdG_owns HQr.out.own) HKS.out (HT.out.below (HW0.out.trans (HBr.out.mono HW0.out.size)))
          rw [HCK.out] at hck
          go_wp2_with fail
          by_cases h3 : M.length < 3
          · rw [if_pos h3] at hck
            have b0 : decide ((3 : Int) ≤ (M.length : Int)) = false := decide_eq_false (by omega)
            have b1 : decide (3 ≤ M.length) = false := decide_eq_false (by omega)
            clear h3
            (with_reducible refine hck.mono ?_)
            rintro e w5 ⟨rfl, hb⟩
            have HQ5 := Lib.hid (HQr.out.below hb)
            have HK5 := Lib.hid (blk_below HKr.out hb)
            have HB5 := Lib.hid (HBr.out.trans (hb.mono HBr.out.size))
            clear hb hck e0 e1 e2 k0 k1 k2
            obtain ⟨e0, e1, e2⟩ := sealed_cells HQ5.out.blk
            obtain ⟨k0, k1, k2⟩ := key_cells HK5.out
            go_wp2_with fail
            go_ret
            exact ⟨rfl, HW0.out.trans (HB5.out.mono HW0.out.size)⟩
          · rw [if_neg h3] at hck
            have b0 : decide ((3 : Int) ≤ (M.length : Int)) = true := decide_eq_true (by omega)
            have b1 : decide (3 ≤ M.length) = true := decide_eq_true (by omega)
            have HM3 := Lib.hid (show 3 ≤ M.length by omega)
            clear h3
            (with_reducible refine hck.mono ?_)
            rintro e w5 ⟨rfl, hb⟩
            have HQ5 := Lib.hid (HQr.out.below hb)
            have HK5 := Lib.hid (blk_below HKr.out hb)
            have HB5 := Lib.hid (HBr.out.trans (hb.mono HBr.out.size))
            clear hb hck e0 e1 e2 k0 k1 k2
            obtain ⟨e0, e1, e2⟩ := sealed_cells HQ5.out.blk
            obtain ⟨k0, k1, k2⟩ := key_cells HK5.out
            obtain ⟨c0, c1, _, f1⟩ := head_cells (HG.out _ HB5.out)
            have s1 := frz0 (i := 1) HQ5.out.blk
            by_cases h32 : root.size = 32
            · have f2 : ((root.size : Int) == 32) = true := by rw [h32]; rfl
              have f3 : ((root.size : Int) != 32) = false := by rw [bne, f2]; rfl
              have HR32 := Lib.hid h32
              clear h32
              by_cases hrr : root = r
              · have g1 : (root.toList == r.toList) = true := by rw [hrr]; exact beq_self_eq_true _
                clear hrr
                go_wp2_with fail
                go_ret
                exact ⟨rfl, HW0.out.trans (HB5.out.mono HW0.out.size)⟩
              · have g1 : (root.toList == r.toList) = false := beq_eq_false_iff_ne.2 (fun e => hrr (toList_inj e))
                clear hrr
                have HGR := Lib.hid (show goodH n root = 0 by have := goodH_ok HGE.out.symm; exact goodH_of this.1 this.2.1 HR32.out)
                have HCO := Lib.hid (checkHF_other sealF HGE.out.symm HR32.out HGM.out HK4.out (show 0 < M.length by have := HM3.out; omega))
                have h00 : 0 ≤ mkW M 0 ∧ mkW M 0 < 4 := marks_first HGM.out (by have := HM3.out; omega)
                obtain ⟨m, hm⟩ : ∃ m : Nat, mkW M 0 = (m : Int) := ⟨(mkW M 0).toNat, by omega⟩
                have HM0 := Lib.hid hm
                have HMS := Lib.hid (show m < 4 by omega)
                rw [hm, Int.toNat_natCast] at HCO
                obtain ⟨u, hu⟩ : ∃ u, u = ks.getD m noB := ⟨_, rfl⟩
                rw [← hu] at HCO
                have HUS := Lib.hid (show u.size ≤ 140737488355328 by rw [hu]; exact HKS.out m (by have := HK4.out; have := HMS.out; omega))
                have HKC := Lib.hid (fun wr (h : Below W.heap.size W wr) => ((rdS_cl (HKR.out wr h) (show m < ks.length by have := HK4.out; have := HMS.out; omega)).trans (by rw [← hu]) : wr.cell? ⟨bk, ok + m, none⟩ = some (.string u)))
                obtain ⟨bm, om, hbm, _, _⟩ := marks_at (rdG_owns HQ5.out.own) (by have := HM3.out; omega)
                subst hbm
                have HMC := Lib.hid (fun wr {q : ByteArray} (h : SldOwn wr W.heap.size qs n q M (.slice (some ⟨bm, om, none⟩) M.length m2)) => by have hx := marks_first_cell (rdG_owns h.own) (by have := HM3.out; omega); rw [HM0.out] at hx; exact hx)
                obtain ⟨A, hA⟩ : ∃ A, A = headB n r := ⟨_, rfl⟩
                obtain ⟨B, hB⟩ : ∃ B, B = headB n root := ⟨_, rfl⟩
                have HTA := Lib.hid (show textF n r = (A, 0) by rw [hA]; exact textF_ok HGE.out.symm)
                have HTB := Lib.hid (show textF n root = (B, 0) by rw [hB]; exact textF_ok HGR.out)
                have HAS := Lib.hid (show A.size ≤ 41 ∧ B.size ≤ 41 by rw [hA, hB]; exact ⟨headB_size HGE.out.symm, headB_size HGR.out⟩)
                rw [← hA, ← hB] at HCO
                clear hA hB hm h00 hu
                obtain ⟨w6, hw6⟩ : ∃ x, w5.setCell ⟨qs, 1, none⟩ (.string root) = x := ⟨_, rfl⟩
                have hu6 : Upd (fun k => k = qs) w5 w6 := by rw [← hw6]; exact (Upd.refl (fun k => k = qs) w5).setCell (a := ⟨qs, 1, none⟩) (.inl rfl) _
                have HQ6 := Lib.hid (show SldOwn w6 W.heap.size qs n root M (.slice (some ⟨bm, om, none⟩) M.length m2) from ⟨by rw [← hw6]; exact cells_setCell HQ5.out.blk 1 _, owns_upd HQ5.out.own hu6 (fun k hk e => by subst e; exact sld_ne HQ5.out.own HQ5.out.blk (by decide) hk)⟩)
                have HK6 := Lib.hid (blk_upd HK5.out hu6 (fun e => by subst e; have h1 := HK5.out; rw [HQ5.out.blk] at h1; simp at h1))
                have HB6 := Lib.hid (below_upd HB5.out hu6 HQB.out HB5.out.size)
                obtain ⟨x0, x1, _, _⟩ := head_cells (HG.out _ HB6.out)
                clear hu6
                have hta := textHead_any n r w6
                rw [HTA.out] at hta
                go_wp2_with fail
                (with_reducible refine hta.mono ?_)
                rintro e w7 ⟨rfl, hb⟩
                have HQ7 := Lib.hid (HQ6.out.below hb)
                have HK7 := Lib.hid (blk_below HK6.out hb)
                have HB7 := Lib.hid (HB6.out.trans (hb.mono HB6.out.size))
                clear hb hta hw6 x0 x1 c0 c1 f1 s1 e0 e1 e2 k0 k1 k2
                obtain ⟨e0, e1, e2⟩ := sealed_cells HQ7.out.blk
                obtain ⟨k0, k1, k2⟩ := key_cells HK7.out
                have htb := textHead_any n root w7
                rw [HTB.out] at htb
                go_wp2_with fail
                (with_reducible refine htb.mono ?_)
                rintro e w8 ⟨rfl, hb⟩
                have HQ8 := Lib.hid (HQ7.out.below hb)
                have HK8 := Lib.hid (blk_below HK7.out hb)
                have HB8 := Lib.hid (HB7.out.trans (hb.mono HB7.out.size))
                clear hb htb e0 e1 e2 k0 k1 k2
                have hb := (Below.refl w8.heap.size w8).drew
                have HQd := Lib.hid (HQ8.out.below hb)
                have HKd := Lib.hid (blk_below HK8.out hb)
                have HBd := Lib.hid (HB8.out.trans (hb.mono HB8.out.size))
                clear hb
                obtain ⟨cv, hcv⟩ : ∃ cv, cv = checkHF sealF ks n root M := ⟨_, rfl⟩
                rw [← hcv] at HCO
                have HCV := Lib.hid hcv
                have a41 : A.size ≤ 41 := HAS.out.1
                have b41 : B.size ≤ 41 := HAS.out.2
                have m3 : (0 : Int) < (M.length : Int) := by have := HM3.out; omega
                have m3n : 0 < M.length := by have := HM3.out; omega
                have mi : (m : Int) < (ks.length : Int) := by have := HK4.out; have := HMS.out; omega
                have mz : (0 : Int) ≤ (m : Int) := by omega
                clear hcv
                go_wp2_with fail
                refine Lone.wp_region_order [(0, false), (1, false), (2, true), (3, false), (4, false), (5, false), (6, false), (7, false), (8, false), (9, false), (10, false), (11, false), (12, false), (13, false), (14, false), (16, false), (17, false), (18, false), (19, false), (20, false), (21, false), (22, false), (23, false), (24, false), (25, false), (15, true), (26, true), (27, false), (28, false), (29, false)] (fun w' => w'.cell? ⟨qk, 0, none⟩ = some (.slice none 0 0) ∧ w'.cell? ⟨qk, 1, none⟩ = some (.slice (some ⟨bk, ok, none⟩) ks.length kc) ∧ w'.cell? ⟨qk, 2, none⟩ = some (.int .i64 0) ∧ w'.cell? ⟨qs, 0, none⟩ = some (.int .i64 n) ∧ w'.cell? ⟨qs, 1, none⟩ = some (.string root) ∧ w'.cell? ⟨qs, 2, none⟩ = some (.slice (some ⟨bm, om, none⟩) M.length m2) ∧ w'.cell? ⟨bm, om, none⟩ = some (.int .i64 (m : Int)) ∧ w'.cell? ⟨bk, ok + m, none⟩ = some (.string u)) (by kernel_rfl) (by kernel_rfl) rfl (by kernel_rfl) (by intro _ _ d _ _ h; cases d <;> exact h) ((let h := sealed_cells HQd.out.blk; let k := key_cells HKd.out; ⟨k.1, k.2.1, k.2.2, h.1, h.2.1, h.2.2, HMC.out _ HQd.out, HKC.out _ HBd.out⟩)) ?_; simp only [List.map_cons, List.map_nil, List.getElem?_toArray, List.getElem?_cons_zero, List.getElem?_cons_succ, Option.getD_some]
                repeat (first | (refine Lone.ro_q (by rfl) (v := ?_) ?_ ?_; rotate_left; (focus (intro w' hSw; (try dsimp only at hSw); go_simp; try with_reducible rfl)); simp only [Act.put, List.setIfInBounds_toArray, List.set_cons_zero, List.set_cons_succ]) | (refine Lone.ro_skip (by rfl) ?_; simp only [Act.put, List.setIfInBounds_toArray, List.set_cons_zero, List.set_cons_succ]))
                (refine Lone.ro_loud (by rfl) (fun K hK => ?_); go_simp)
                have hck := checkHd_any [] ks 0 n root M (.slice none 0 0) _ _ w8.drew (rdS_nil0 _) (HKR.out _ HBd.out) (rdG_owns HQd.out.own) HKS.out (HT.out.below (HW0.out.trans (HBd.out.mono HW0.out.size)))
                rw [← HCV.out] at hck
                (with_reducible refine hck.mono ?_)
                rintro e w9 ⟨rfl, hb⟩
                have HQ9 := Lib.hid (HQd.out.below hb)
                have HK9 := Lib.hid (blk_below HKd.out hb)
                have HB9 := Lib.hid (HBd.out.trans (hb.mono HBd.out.size))
                clear hb hck
                (refine hK.out _ _ (fun w' => w'.cell? ⟨qk, 0, none⟩ = some (.slice none 0 0) ∧ w'.cell? ⟨qk, 1, none⟩ = some (.slice (some ⟨bk, ok, none⟩) ks.length kc) ∧ w'.cell? ⟨qk, 2, none⟩ = some (.int .i64 0) ∧ w'.cell? ⟨qs, 0, none⟩ = some (.int .i64 n) ∧ w'.cell? ⟨qs, 1, none⟩ = some (.string root) ∧ w'.cell? ⟨qs, 2, none⟩ = some (.slice (some ⟨bm, om, none⟩) M.length m2) ∧ w'.cell? ⟨bm, om, none⟩ = some (.int .i64 (m : Int)) ∧ w'.cell? ⟨bk, ok + m, none⟩ = some (.string u)) (.inl fun _ h => h) ((let h := sealed_cells HQ9.out.blk; let k := key_cells HK9.out; ⟨k.1, k.2.1, k.2.2, h.1, h.2.1, h.2.2, HMC.out _ HQ9.out, HKC.out _ HB9.out⟩)) ?_; clear hK K; try simp only [Act.put, List.setIfInBounds_toArray, List.set_cons_zero, List.set_cons_succ])
                by_cases hv : cv = 13
                · have vb : (cv == 13) = true := beq_iff_eq.2 hv
                  clear hv
                  repeat (first | (refine Lone.ro_q (by rfl) (v := ?_) ?_ ?_; rotate_left; (focus (intro w' hSw; (try dsimp only at hSw); go_simp; try with_reducible rfl)); simp only [Act.put, List.setIfInBounds_toArray, List.set_cons_zero, List.set_cons_succ]) | (refine Lone.ro_skip (by rfl) ?_; simp only [Act.put, List.setIfInBounds_toArray, List.set_cons_zero, List.set_cons_succ]))
                  (refine Lone.ro_skipL (by rfl) (let h := sealed_cells HQ9.out.blk; let k := key_cells HK9.out; ⟨k.1, k.2.1, k.2.2, h.1, h.2.1, h.2.2, HMC.out _ HQ9.out, HKC.out _ HB9.out⟩) ?_; simp only [Act.put, List.setIfInBounds_toArray, List.set_cons_zero, List.set_cons_succ])
                  (refine Lone.ro_skipL (by rfl) (let h := sealed_cells HQ9.out.blk; let k := key_cells HK9.out; ⟨k.1, k.2.1, k.2.2, h.1, h.2.1, h.2.2, HMC.out _ HQ9.out, HKC.out _ HB9.out⟩) ?_; simp only [Act.put, List.setIfInBounds_toArray, List.set_cons_zero, List.set_cons_succ])
                  repeat (first | (refine Lone.ro_q (by rfl) (v := ?_) ?_ ?_; rotate_left; (focus (intro w' hSw; (try dsimp only at hSw); go_simp; try with_reducible rfl)); simp only [Act.put, List.setIfInBounds_toArray, List.set_cons_zero, List.set_cons_succ]) | (refine Lone.ro_skip (by rfl) ?_; simp only [Act.put, List.setIfInBounds_toArray, List.set_cons_zero, List.set_cons_succ]))
                  (refine Lone.ro_nil ?_; go_wp2_with fail)
                  go_ret
                  exact ⟨rfl, HW0.out.trans (HB9.out.mono HW0.out.size)⟩
                · have vb : (cv == 13) = false := beq_eq_false_iff_ne.2 hv
                  have hse := HCO.out.resolve_left hv
                  obtain ⟨Z, hZ⟩ : ∃ Z, Z = sealF u (headW ++ A) := ⟨_, rfl⟩
                  have HZA := Lib.hid hZ
                  have HZB := Lib.hid (hZ.trans hse)
                  have sb : (Z.toList == Z.toList) = true := beq_self_eq_true _
                  clear hv hse hZ
                  repeat (first | (refine Lone.ro_q (by rfl) (v := ?_) ?_ ?_; rotate_left; (focus (intro w' hSw; (try dsimp only at hSw); go_simp; try with_reducible rfl)); simp only [Act.put, List.setIfInBounds_toArray, List.set_cons_zero, List.set_cons_succ]) | (refine Lone.ro_skip (by rfl) ?_; simp only [Act.put, List.setIfInBounds_toArray, List.set_cons_zero, List.set_cons_succ]))
                  refine Lone.ro_q (by rfl) (v := .string (⟨#[104, 101, 97, 100]⟩ ++ A)) (fun w' hSw => by go_simp <;> omega) ?_; simp only [Act.put, List.setIfInBounds_toArray, List.set_cons_zero, List.set_cons_succ]
                  repeat (first | (refine Lone.ro_q (by rfl) (v := ?_) ?_ ?_; rotate_left; (focus (intro w' hSw; (try dsimp only at hSw); go_simp; try with_reducible rfl)); simp only [Act.put, List.setIfInBounds_toArray, List.set_cons_zero, List.set_cons_succ]) | (refine Lone.ro_skip (by rfl) ?_; simp only [Act.put, List.setIfInBounds_toArray, List.set_cons_zero, List.set_cons_succ]))
                  refine Lone.ro_q (by rfl) (v := .string (⟨#[104, 101, 97, 100]⟩ ++ B)) (fun w' hSw => by go_simp <;> omega) ?_; simp only [Act.put, List.setIfInBounds_toArray, List.set_cons_zero, List.set_cons_succ]
                  repeat (first | (refine Lone.ro_q (by rfl) (v := ?_) ?_ ?_; rotate_left; (focus (intro w' hSw; (try dsimp only at hSw); go_simp; try with_reducible rfl)); simp only [Act.put, List.setIfInBounds_toArray, List.set_cons_zero, List.set_cons_succ]) | (refine Lone.ro_skip (by rfl) ?_; simp only [Act.put, List.setIfInBounds_toArray, List.set_cons_zero, List.set_cons_succ]))
                  (refine Lone.ro_loud (by rfl) (fun K hK => ?_); go_simp)
                  have hs1 := seal_any u (headW ++ A) w9 (by rw [ByteArray.size_append]; have := HAS.out; have e : headW.size = 4 := rfl; omega) HUS.out (HT.out.below (HW0.out.trans (HB9.out.mono HW0.out.size)))
                  rw [← HZA.out] at hs1
                  unfold headW at hs1
                  (with_reducible refine hs1.mono ?_)
                  rintro e w10 ⟨rfl, hb⟩
                  have HQ10 := Lib.hid (HQ9.out.below hb)
                  have HK10 := Lib.hid (blk_below HK9.out hb)
                  have HB10 := Lib.hid (HB9.out.trans (hb.mono HB9.out.size))
                  clear hb hs1
                  (refine hK.out _ _ (fun w' => w'.cell? ⟨qk, 0, none⟩ = some (.slice none 0 0) ∧ w'.cell? ⟨qk, 1, none⟩ = some (.slice (some ⟨bk, ok, none⟩) ks.length kc) ∧ w'.cell? ⟨qk, 2, none⟩ = some (.int .i64 0) ∧ w'.cell? ⟨qs, 0, none⟩ = some (.int .i64 n) ∧ w'.cell? ⟨qs, 1, none⟩ = some (.string root) ∧ w'.cell? ⟨qs, 2, none⟩ = some (.slice (some ⟨bm, om, none⟩) M.length m2) ∧ w'.cell? ⟨bm, om, none⟩ = some (.int .i64 (m : Int)) ∧ w'.cell? ⟨bk, ok + m, none⟩ = some (.string u)) (.inl fun _ h => h) ((let h := sealed_cells HQ10.out.blk; let k := key_cells HK10.out; ⟨k.1, k.2.1, k.2.2, h.1, h.2.1, h.2.2, HMC.out _ HQ10.out, HKC.out _ HB10.out⟩)) ?_; clear hK K; try simp only [Act.put, List.setIfInBounds_toArray, List.set_cons_zero, List.set_cons_succ])
                  (refine Lone.ro_loud (by rfl) (fun K hK => ?_); go_simp)
                  have hs2 := seal_any u (headW ++ B) w10 (by rw [ByteArray.size_append]; have := HAS.out; have e : headW.size = 4 := rfl; omega) HUS.out (HT.out.below (HW0.out.trans (HB10.out.mono HW0.out.size)))
                  rw [← HZB.out] at hs2
                  unfold headW at hs2
                  (with_reducible refine hs2.mono ?_)
                  rintro e w11 ⟨rfl, hb⟩
                  have HQ11 := Lib.hid (HQ10.out.below hb)
                  have HK11 := Lib.hid (blk_below HK10.out hb)
                  have HB11 := Lib.hid (HB10.out.trans (hb.mono HB10.out.size))
                  clear hb hs2
                  (refine hK.out _ _ (fun w' => w'.cell? ⟨qk, 0, none⟩ = some (.slice none 0 0) ∧ w'.cell? ⟨qk, 1, none⟩ = some (.slice (some ⟨bk, ok, none⟩) ks.length kc) ∧ w'.cell? ⟨qk, 2, none⟩ = some (.int .i64 0) ∧ w'.cell? ⟨qs, 0, none⟩ = some (.int .i64 n) ∧ w'.cell? ⟨qs, 1, none⟩ = some (.string root) ∧ w'.cell? ⟨qs, 2, none⟩ = some (.slice (some ⟨bm, om, none⟩) M.length m2) ∧ w'.cell? ⟨bm, om, none⟩ = some (.int .i64 (m : Int)) ∧ w'.cell? ⟨bk, ok + m, none⟩ = some (.string u)) (.inl fun _ h => h) ((let h := sealed_cells HQ11.out.blk; let k := key_cells HK11.out; ⟨k.1, k.2.1, k.2.2, h.1, h.2.1, h.2.2, HMC.out _ HQ11.out, HKC.out _ HB11.out⟩)) ?_; clear hK K; try simp only [Act.put, List.setIfInBounds_toArray, List.set_cons_zero, List.set_cons_succ])
                  repeat (first | (refine Lone.ro_q (by rfl) (v := ?_) ?_ ?_; rotate_left; (focus (intro w' hSw; (try dsimp only at hSw); go_simp; try with_reducible rfl)); simp only [Act.put, List.setIfInBounds_toArray, List.set_cons_zero, List.set_cons_succ]) | (refine Lone.ro_skip (by rfl) ?_; simp only [Act.put, List.setIfInBounds_toArray, List.set_cons_zero, List.set_cons_succ]))
                  (refine Lone.ro_nil ?_; go_wp2_with fail)
                  go_ret
                  exact ⟨rfl, HW0.out.trans (HB11.out.mono HW0.out.size)⟩
            · have f2 : ((root.size : Int) == 32) = false := beq_eq_false_iff_ne.2 (by omega)
              have f3 : ((root.size : Int) != 32) = true := by rw [bne, f2]; rfl
              clear h32
              go_wp2_with fail
              go_ret
              exact ⟨rfl, HW0.out.trans (HB5.out.mono HW0.out.size)⟩
  · have n1 : (ge == 0) = false := beq_eq_false_iff_ne.2 hz
    have n2 : (ge != 0) = true := by rw [bne, n1]; rfl
    clear hz
    go_wp2_with fail
    (with_reducible refine (heads_any _ (HT.out.below (HW0.out.trans (HB1.out.mono HW0.out.size)))).mono ?_)
    rintro e w9 ⟨rfl, hb⟩
    have HB9 := Lib.hid (HB1.out.trans (hb.mono HB1.out.size))
    clear hb
    go_wp2_with fail
    go_ret
    exact ⟨rfl, HW0.out.trans (HB9.out.mono HW0.out.size)⟩
end Go.Proofs.YtinhjnbgblieeaaDoor
