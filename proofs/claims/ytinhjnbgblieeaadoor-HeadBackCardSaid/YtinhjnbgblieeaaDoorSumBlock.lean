/- The walk of sum.block. -/
import Derived.Test.YtinhjnbgblieeaaDoorSumTurn
import Derived.Test.YtinhjnbgblieeaaDoorRegion
import Derived.Test.YtinhjnbgblieeaaDoorRegion2
import Derived.Laws.CopyRow
import Derived.Shelf.Spec.SlicesInsert
namespace Go.Proofs.YtinhjnbgblieeaaDoor
open Go.RowKit
set_option linter.unusedVariables false
set_option linter.unusedSimpArgs false

/-- A block of cells: what it holds, that it may be written, and what it is behind a store. -/
theorem row_cell {w : World} {g : Nat} {cs : List Value} {t : TypeId} (h : w.heap[g]? = some (.cells cs.toArray t (0, 0))) (i : Nat) : w.cell? ⟨g, i, none⟩ = cs[i]? := by
  simp [World.cell?, h]
theorem cell_far {w : World} {g i k : Nat} {u v : Value} (h : w.cell? ⟨g, i, none⟩ = some u) (hne : i ≠ k) : (w.setCell ⟨g, k, none⟩ v).cell? ⟨g, i, none⟩ = some u := by
  rw [World.cell?_setCell_other _ _ _ _ (fun e => hne (by injection e with _ e _; exact e.symm))]; exact h
theorem row_free {w : World} {g : Nat} {cs : List Value} {t : TypeId} (h : w.heap[g]? = some (.cells cs.toArray t (0, 0))) (i : Nat) : w.frozen? ⟨g, i, none⟩ = false := by
  simp [World.frozen?, h]
theorem row_set {w : World} {g : Nat} {cs : List Value} {t : TypeId} (h : w.heap[g]? = some (.cells cs.toArray t (0, 0))) (i : Nat) (u : Value) :
    (w.setCell ⟨g, i, none⟩ u).heap[g]? = some (.cells (cs.set i u).toArray t (0, 0)) := by
  have hlt := lt_of_block h
  have h' : w.heap[g] = .cells cs.toArray t (0, 0) := by simpa [Array.getElem?_eq_getElem hlt] using h
  show (w.heap.modify g _)[g]? = _
  rw [Array.getElem?_eq_getElem (by simpa using hlt), Array.getElem_modify_self, h']
  simp

theorem row8 {w : World} {g : Nat} {s : Hd} {t : TypeId} (h : w.heap[g]? = some (.cells (u32s s.list).toArray t (0, 0))) :
    w.cell? ⟨g, 0, none⟩ = some (.int .u32 s.a) ∧ w.cell? ⟨g, 1, none⟩ = some (.int .u32 s.b) ∧ w.cell? ⟨g, 2, none⟩ = some (.int .u32 s.c) ∧ w.cell? ⟨g, 3, none⟩ = some (.int .u32 s.d) ∧
    w.cell? ⟨g, 4, none⟩ = some (.int .u32 s.e) ∧ w.cell? ⟨g, 5, none⟩ = some (.int .u32 s.f) ∧ w.cell? ⟨g, 6, none⟩ = some (.int .u32 s.g) ∧ w.cell? ⟨g, 7, none⟩ = some (.int .u32 s.h) := by
  refine ⟨?_, ?_, ?_, ?_, ?_, ?_, ?_, ?_⟩ <;> rw [row_cell h] <;> rfl

/-- The blocks of the call: the heads, the answer, the words. -/
structure BlkW (w wr : World) (hd : Hd) (ws : List Int) : Prop where
  h0 : wr.heap[w.heap.size]? = some (.cells (u32s hd.list).toArray 103 (0, 0))
  h1 : wr.heap[w.heap.size + 1]? = some (.cells (u32s (List.replicate 8 0)).toArray 103 (0, 0))
  h2 : wr.heap[w.heap.size + 1 + 1]? = some (.cells (u32s ws).toArray 139 (0, 0))
  bel : Below w.heap.size w wr

theorem BlkW.drew {w wr : World} {hd : Hd} {ws : List Int} (h : BlkW w wr hd ws) : BlkW w wr.drew hd ws := ⟨h.h0, h.h1, h.h2, h.bel.drew⟩
theorem BlkW.set {w wr : World} {hd : Hd} {ws : List Int} (h : BlkW w wr hd ws) (i : Nat) (v : Int) :
    BlkW w (wr.setCell ⟨w.heap.size + 1 + 1, i, none⟩ (.int .u32 v)) hd (ws.set i v) :=
  ⟨by rw [Below.heap_setCell _ _ _ _ (by simp; omega)]; exact h.h0, by rw [Below.heap_setCell _ _ _ _ (by simp)]; exact h.h1, by rw [u32s_set]; exact row_set h.h2 i _, h.bel.setCell (by simp; omega) _⟩

/-- Besides, the heads at work in block g. -/
structure BlkS (w wr : World) (g : Nat) (hd : Hd) (ws : List Int) (s : Hd) : Prop where
  blk : BlkW w wr hd ws
  h3 : wr.heap[g]? = some (.cells (u32s s.list).toArray 103 (0, 0))
  far : w.heap.size + 1 + 1 < g

theorem BlkW.far {w wr : World} {hd : Hd} {ws : List Int} (h : BlkW w wr hd ws) {g : Nat} (hg : w.heap.size + 1 + 1 < g) (i : Nat) (u : Value) : BlkW w (wr.setCell ⟨g, i, none⟩ u) hd ws :=
  ⟨by rw [Below.heap_setCell _ _ _ _ (by simp; omega)]; exact h.h0, by rw [Below.heap_setCell _ _ _ _ (by simp; omega)]; exact h.h1, by rw [Below.heap_setCell _ _ _ _ (by simp; omega)]; exact h.h2, h.bel.setCell (by simp; omega) _⟩

theorem blkS_start {w wo : World} {hd : Hd} {ws : List Int} (h : BlkW w wo hd ws) : BlkS w (wo.alloc (.cells (u32s hd.list).toArray 103)) wo.heap.size hd ws hd := by
  have h2 := lt_of_block h.h2
  refine ⟨⟨?_, ?_, ?_, h.bel.alloc (by omega) _⟩, heap_alloc_new _ _, h2⟩
  · rw [Below.heap_alloc _ _ _ (by omega)]; exact h.h0
  · rw [Below.heap_alloc _ _ _ (by omega)]; exact h.h1
  · rw [Below.heap_alloc _ _ _ h2]; exact h.h2

theorem BlkS.drew {w wr : World} {g : Nat} {hd : Hd} {ws : List Int} {s : Hd} (h : BlkS w wr g hd ws s) : BlkS w wr.drew g hd ws s := ⟨h.blk.drew, h.h3, h.far⟩
theorem BlkS.set4 {w wr : World} {g : Nat} {hd : Hd} {ws : List Int} {s : Hd} (h : BlkS w wr g hd ws s) (v : Int) : BlkS w (wr.setCell ⟨g, 4, none⟩ (.int .u32 v)) g hd ws ⟨s.a, s.b, s.c, s.d, v, s.f, s.g, s.h⟩ :=
  ⟨h.blk.far h.far _ _, row_set h.h3 4 _, h.far⟩
theorem BlkS.set0 {w wr : World} {g : Nat} {hd : Hd} {ws : List Int} {s : Hd} (h : BlkS w wr g hd ws s) (v : Int) : BlkS w (wr.setCell ⟨g, 0, none⟩ (.int .u32 v)) g hd ws ⟨v, s.b, s.c, s.d, s.e, s.f, s.g, s.h⟩ :=
  ⟨h.blk.far h.far _ _, row_set h.h3 0 _, h.far⟩
theorem setRow_base (w : World) (g k : Nat) (cs : Array Value) (h : k < g) : (w.setRow g cs).heap[k]? = w.heap[k]? := setRow_other w g k cs (by omega)
theorem BlkS.copy {w wr : World} {g : Nat} {hd : Hd} {ws : List Int} {s : Hd} (h : BlkS w wr g hd ws s) : BlkS w (wr.setRow g (u32s [s.a, s.a, s.b, s.c, s.d, s.e, s.f, s.g]).toArray) g hd ws ⟨s.a, s.a, s.b, s.c, s.d, s.e, s.f, s.g⟩ := by
  have hf := h.far
  refine ⟨⟨?_, ?_, ?_, h.blk.bel.trans ⟨rfl, rfl, rfl, by simp [World.setRow], fun k hk => setRow_base _ _ _ _ (by omega)⟩⟩, setRow_heap _ _ _ _ _ _ h.h3, h.far⟩
  · rw [setRow_base _ _ _ _ (by omega)]; exact h.blk.h0
  · rw [setRow_base _ _ _ _ (by omega)]; exact h.blk.h1
  · rw [setRow_base _ _ _ _ (by omega)]; exact h.blk.h2
theorem copy8 {P : Program} {w : World} {g : Nat} {s : Hd} {t : TypeId} (h : w.heap[g]? = some (.cells (u32s s.list).toArray t (0, 0))) (dT sT ty elem : TypeId)
    (hu : P.underlying dT = some (.slice elem)) (hs : (P.info? elem).map (·.size) = some 1) :
    (Builtin.copy_ #[dT, sT] ty #[.slice (some ⟨g, 1, none⟩) 7 7, .slice (some ⟨g, 0, none⟩) 7 8]).run P w = .ok (goInt 7) (w.setRow g (u32s [s.a, s.a, s.b, s.c, s.d, s.e, s.f, s.g]).toArray) := by
  have hr := run_copy_row (P := P) w dT sT ty elem g 1 7 7 ⟨g, 0, none⟩ 7 8 _ t (u32s [s.a, s.b, s.c, s.d, s.e, s.f, s.g]) hu hs h (by rfl)
    (by
      intro j v hj
      have e : (⟨g, 0, none⟩ : Addr).add j = ⟨g, j, none⟩ := by unfold Addr.add; split <;> simp_all
      rw [e, row_cell h]
      rcases j with _ | _ | _ | _ | _ | _ | _ | j <;> first | exact hj | (simp [u32s] at hj))
    (by simp [u32s, Hd.list]) (by intro v hv; simp [u32s] at hv; rcases hv with rfl | rfl | rfl | rfl | rfl | rfl | rfl <;> rfl)
  exact hr

/-- The heads with the work added up to a place. -/
def addTo (hd s : Hd) : Nat → List Int
  | 0 => hd.list
  | i + 1 => (addTo hd s i).set i ((hd.list.getD i 0 + s.list.getD i 0) % 4294967296)
theorem addTo_length (hd s : Hd) : ∀ i, (addTo hd s i).length = 8
  | 0 => rfl
  | i + 1 => by rw [addTo, List.length_set, addTo_length hd s i]
theorem addTo_get (hd s : Hd) : ∀ i j, i ≤ j → (addTo hd s i).getD j 0 = hd.list.getD j 0
  | 0, _, _ => rfl
  | i + 1, j, h => by rw [addTo, List.getD, List.getElem?_set_ne (by omega)]; exact addTo_get hd s i j (by omega)
structure BlkE (w wr : World) (g : Nat) (s : Hd) (xs : List Int) : Prop where
  h0 : wr.heap[w.heap.size]? = some (.cells (u32s xs).toArray 103 (0, 0))
  h1 : wr.heap[w.heap.size + 1]? = some (.cells (u32s (List.replicate 8 0)).toArray 103 (0, 0))
  h3 : wr.heap[g]? = some (.cells (u32s s.list).toArray 103 (0, 0))
  far : w.heap.size + 1 + 1 < g
  bel : Below w.heap.size w wr
theorem BlkE.drew {w wr : World} {g : Nat} {s : Hd} {xs : List Int} (h : BlkE w wr g s xs) : BlkE w wr.drew g s xs := ⟨h.h0, h.h1, h.h3, h.far, h.bel.drew⟩
theorem BlkE.set {w wr : World} {g : Nat} {s : Hd} {xs : List Int} (h : BlkE w wr g s xs) (i : Nat) (v : Int) : BlkE w (wr.setCell ⟨w.heap.size, i, none⟩ (.int .u32 v)) g s (xs.set i v) := by
  have hf := h.far
  exact ⟨by rw [u32s_set]; exact row_set h.h0 i _, by rw [Below.heap_setCell _ _ _ _ (by simp)]; exact h.h1, by rw [Below.heap_setCell _ _ _ _ (by simp; omega)]; exact h.h3, h.far, h.bel.setCell (Nat.le_refl _) _⟩

theorem heap_three (w : World) (a b c : Obj) : (((w.alloc a).alloc b).alloc c).heap[w.heap.size]? = some a ∧ (((w.alloc a).alloc b).alloc c).heap[w.heap.size + 1]? = some b ∧ (((w.alloc a).alloc b).alloc c).heap[w.heap.size + 1 + 1]? = some c := by
  refine ⟨?_, ?_, ?_⟩
  · rw [Below.heap_alloc _ _ _ (by simp; omega), Below.heap_alloc _ _ _ (by simp)]; exact heap_alloc_new w a
  · rw [Below.heap_alloc _ _ _ (by simp)]
    have := heap_alloc_new (w.alloc a) b
    simpa using this
  · have := heap_alloc_new ((w.alloc a).alloc b) c
    simpa using this

theorem blkW_start (w : World) (hd : Hd) : BlkW w (((w.alloc (.cells (u32s hd.list).toArray 103)).alloc (.cells (u32s (List.replicate 8 0)).toArray 103)).alloc (.cells (u32s (List.replicate 64 0)).toArray 139)) hd (List.replicate 64 0) :=
  ⟨(heap_three w _ _ _).1, (heap_three w _ _ _).2.1, (heap_three w _ _ _).2.2, (((Below.refl _ _).alloc (Nat.le_refl _) _).alloc (by simp) _).alloc (by simp; omega) _⟩

set_option maxRecDepth 100000 in
set_option maxHeartbeats 1600000 in
theorem block_any (hd : Hd) (b : ByteArray) (w : World) (hb0 : b.size = 64) (hok : hd.ok) (htab0 : ∀ i, i < 64 → w.cell? ⟨0, i, none⟩ = some (.int .u32 (shaK.getD i 0))) :
    Calls Tryd.prog 72 #[.agg #[.int .u32 hd.a, .int .u32 hd.b, .int .u32 hd.c, .int .u32 hd.d, .int .u32 hd.e, .int .u32 hd.f, .int .u32 hd.g, .int .u32 hd.h], .string b] w fun e w' => e = .returned (hdV (blockF hd b)) ∧ Below w.heap.size w w' := by
  have HTB : Hid (0 < w.heap.size) := Lib.hid (by have := World.block_lt_of_cell? w _ (htab0 0 (by omega)); exact this)
  have htab := Lib.hid htab0
  clear htab0
  have HB := Lib.hid hb0
  have hb : 64 ≤ b.size := by omega
  clear hb0
  go_enter Tryd.func72, Tryd.ntmps72
  go_wp2_with fail
  go_loopw [17] (fun i wr => ∃ k : Nat, i = .int .i64 k ∧ k ≤ 16 ∧ BlkW w wr hd (wsA b k)) (fun i _ => 16 - (intOf i).toNat)
  case atStart => exact ⟨0, rfl, by omega, blkW_start w hd⟩
  case round =>
    obtain ⟨k, rfl, hk, hB⟩ := hrel
    by_cases h16 : k < 16
    · have hB' := hB.drew
      have hc : wr.drew.cell? ⟨w.heap.size + 1 + 1, k, none⟩ = some (.int .u32 ((wsA b k).getD k 0)) := by rw [row_cell hB'.h2, u32s_get (by rw [wsA_length]; omega)]
      have hf : wr.drew.frozen? ⟨w.heap.size + 1 + 1, k, none⟩ = false := row_free hB'.h2 k
      obtain ⟨q, hq⟩ : ∃ q : Nat, q = 4 * k := ⟨_, rfl⟩
      obtain ⟨q1, hq1⟩ : ∃ q1 : Nat, q1 = q + 1 := ⟨_, rfl⟩
      obtain ⟨q2, hq2⟩ : ∃ q2 : Nat, q2 = q + 2 := ⟨_, rfl⟩
      obtain ⟨q3, hq3⟩ : ∃ q3 : Nat, q3 = q + 3 := ⟨_, rfl⟩
      have e0 : IntKind.i64.wrap (4 * (k : Int)) = (q : Int) := by rw [IntWalk.i64_in _ (by omega)]; omega
      have e1 : IntKind.i64.wrap ((q : Int) + 1) = (q1 : Int) := by rw [IntWalk.i64_in _ (by omega)]; omega
      have e2 : IntKind.i64.wrap ((q : Int) + 2) = (q2 : Int) := by rw [IntWalk.i64_in _ (by omega)]; omega
      have e3 : IntKind.i64.wrap ((q : Int) + 3) = (q3 : Int) := by rw [IntWalk.i64_in _ (by omega)]; omega
      have k64 : (k : Int) < 64 := by omega
      have k0 : (0 : Int) ≤ (k : Int) := by omega
      have l0 : q < b.size := by omega
      have l1 : q1 < b.size := by omega
      have l2 : q2 < b.size := by omega
      have l3 : q3 < b.size := by omega
      have HQ := Lib.hid (show (q = 4 * k ∧ q1 = q + 1 ∧ q2 = q + 2 ∧ q3 = q + 3) from ⟨hq, hq1, hq2, hq3⟩)
      clear hq hq1 hq2 hq3
      go_wp2_with fail
      refine wp_region_order [(0, false), (1, false), (2, false), (3, false), (4, false), (5, false), (6, false), (7, false), (8, false), (9, false), (10, false), (11, false), (12, false), (13, false), (14, false), (15, false), (16, false), (17, false), (18, false), (19, false), (20, false), (21, false), (22, false), (23, false), (24, false), (25, false), (26, false), (27, false), (28, false), (29, false), (30, false), (31, true)] (fun _ => True) (by kernel_rfl) (by kernel_rfl) rfl (by kernel_rfl) (by intro _ _ d _ _ h; cases d <;> exact h) (trivial) ?_; simp only [List.map_cons, List.map_nil, List.getElem?_toArray, List.getElem?_cons_zero, List.getElem?_cons_succ, Option.getD_some]
      repeat (first | (refine ro_q (by rfl) (v := ?_) ?_ ?_; rotate_left; (focus (intro w' hSw; (try dsimp only at hSw); go_simp; try with_reducible rfl)); simp only [Act.put, List.setIfInBounds_toArray, List.set_cons_zero, List.set_cons_succ]) | (refine ro_skip (by rfl) ?_; simp only [Act.put, List.setIfInBounds_toArray, List.set_cons_zero, List.set_cons_succ]))
      (refine ro_loud (by rfl) (fun K hK => ?_); go_simp)
      (refine hK.out _ _ (fun _ => True) (fun _ h => h) (trivial) ?_; clear hK K; try simp only [Act.put, List.setIfInBounds_toArray, List.set_cons_zero, List.set_cons_succ])
      (refine ro_nil ?_; go_wp2_with fail)
      go_roundw
      case rel =>
        refine ⟨k + 1, by go_num, by omega, ?_⟩
        rw [word0_eq b k q q1 q2 q3 HQ.out l0 l1 l2 l3]
        exact (hB.set k _).drew
      case measure => simp [intOf]; omega
    · have hk16 : k = 16 := by omega
      rw [hk16] at hB
      have hkb : decide ((k : Int) < 16) = false := by simp; omega
      clear hk16 hk h16
      generalize (k : Int) = kz at *
      clear k
      go_wp2_with fail
      go_loopw [7] (fun i wr => ∃ j : Nat, i = .int .i64 ↑(j + 16) ∧ j ≤ 48 ∧ BlkW w wr hd (wsB b j)) (fun i _ => 64 - (intOf i).toNat)
      case atStart => exact ⟨0, rfl, by omega, hB⟩
      case round =>
        clear hB
        obtain ⟨j, rfl, hj, hB⟩ := hrel
        obtain ⟨k, hk⟩ : ∃ k : Nat, k = j + 16 := ⟨_, rfl⟩
        rw [← hk]
        by_cases h48 : j < 48
        · obtain ⟨m1, hm1⟩ : ∃ m : Nat, m = j + 1 := ⟨_, rfl⟩
          obtain ⟨m9, hm9⟩ : ∃ m : Nat, m = j + 9 := ⟨_, rfl⟩
          obtain ⟨m14, hm14⟩ : ∃ m : Nat, m = j + 14 := ⟨_, rfl⟩
          have e15 : IntKind.i64.wrap ((k : Int) - 15) = (m1 : Int) := by rw [IntWalk.i64_in _ (by omega)]; omega
          have e2 : IntKind.i64.wrap ((k : Int) - 2) = (m14 : Int) := by rw [IntWalk.i64_in _ (by omega)]; omega
          have e16 : IntKind.i64.wrap ((k : Int) - 16) = (j : Int) := by rw [IntWalk.i64_in _ (by omega)]; omega
          have e7 : IntKind.i64.wrap ((k : Int) - 7) = (m9 : Int) := by rw [IntWalk.i64_in _ (by omega)]; omega
          have z1 : (m1 : Int) < 64 := by omega
          have z9 : (m9 : Int) < 64 := by omega
          have z14 : (m14 : Int) < 64 := by omega
          have zj : (j : Int) < 64 := by omega
          have zk : (k : Int) < 64 := by omega
          have y1 : (0 : Int) ≤ (m1 : Int) := by omega
          have y9 : (0 : Int) ≤ (m9 : Int) := by omega
          have y14 : (0 : Int) ≤ (m14 : Int) := by omega
          have yj : (0 : Int) ≤ (j : Int) := by omega
          have yk : (0 : Int) ≤ (k : Int) := by omega
          have hlen := wsB_length b j
          have u1 := allU_B b j m1
          have u14 := allU_B b j m14
          have hsc : sched (wsB b j) j = sched (wsB b j) j := rfl
          have hB1 := hB.drew
          have hB2 := hB1.drew
          have c1 : wr.cell? ⟨w.heap.size + 1 + 1, m1, none⟩ = some (.int .u32 ((wsB b j).getD m1 0)) := by rw [row_cell hB.h2, u32s_get (by omega)]
          have c9 : wr.cell? ⟨w.heap.size + 1 + 1, m9, none⟩ = some (.int .u32 ((wsB b j).getD m9 0)) := by rw [row_cell hB.h2, u32s_get (by omega)]
          have c14 : wr.cell? ⟨w.heap.size + 1 + 1, m14, none⟩ = some (.int .u32 ((wsB b j).getD m14 0)) := by rw [row_cell hB.h2, u32s_get (by omega)]
          have cj : wr.cell? ⟨w.heap.size + 1 + 1, j, none⟩ = some (.int .u32 ((wsB b j).getD j 0)) := by rw [row_cell hB.h2, u32s_get (by omega)]
          have ck : wr.cell? ⟨w.heap.size + 1 + 1, k, none⟩ = some (.int .u32 ((wsB b j).getD k 0)) := by rw [row_cell hB.h2, u32s_get (by omega)]
          have fk : wr.frozen? ⟨w.heap.size + 1 + 1, k, none⟩ = false := row_free hB.h2 k
          have HJ : Hid (sched (wsB b j) j = (((((wsB b j).getD j 0 + bits .xor .u32 (bits .xor .u32 (turnF ((wsB b j).getD m1 0) 7) (turnF ((wsB b j).getD m1 0) 18)) ((wsB b j).getD m1 0 / 8)) % 4294967296 + (wsB b j).getD m9 0) % 4294967296
            + bits .xor .u32 (bits .xor .u32 (turnF ((wsB b j).getD m14 0) 17) (turnF ((wsB b j).getD m14 0) 19)) ((wsB b j).getD m14 0 / 1024)) % 4294967296)) := Lib.hid (by rw [hm1, hm9, hm14]; rfl)
          have HK := Lib.hid hk
          have NK : Hid (j ≠ k ∧ m9 ≠ k) := Lib.hid ⟨by omega, by omega⟩
          generalize hx1 : (wsB b j).getD m1 0 = x1 at *
          generalize hx9 : (wsB b j).getD m9 0 = x9 at *
          generalize hx14 : (wsB b j).getD m14 0 = x14 at *
          generalize hxj : (wsB b j).getD j 0 = xj at *
          generalize hxk : (wsB b j).getD k 0 = xk at *
          clear hm1 hm9 hm14 hsc hx1 hx9 hx14 hxj hxk hk hlen
          go_wp2_with fail
          refine wp_region_order [(0, false), (1, false), (2, false), (3, false), (4, false), (5, false), (6, false), (7, false), (8, false), (9, false)] (fun w' => w'.cell? ⟨w.heap.size + 1 + 1, m1, none⟩ = some (.int .u32 x1) ∧ w'.cell? ⟨w.heap.size + 1 + 1, m14, none⟩ = some (.int .u32 x14)) (by kernel_rfl) (by kernel_rfl) rfl (by kernel_rfl) (by intro _ _ d _ _ h; cases d <;> exact h) (⟨c1, c14⟩) ?_; simp only [List.map_cons, List.map_nil, List.getElem?_toArray, List.getElem?_cons_zero, List.getElem?_cons_succ, Option.getD_some]
          repeat (first | (refine ro_q (by rfl) (v := ?_) ?_ ?_; rotate_left; (focus (intro w' hSw; (try dsimp only at hSw); go_simp; try with_reducible rfl)); simp only [Act.put, List.setIfInBounds_toArray, List.set_cons_zero, List.set_cons_succ]) | (refine ro_skip (by rfl) ?_; simp only [Act.put, List.setIfInBounds_toArray, List.set_cons_zero, List.set_cons_succ]))
          (refine ro_nil ?_; go_wp2_with fail)
          refine wp_region_order [(0, false), (1, false), (2, false), (3, false), (4, false), (5, false), (7, false), (10, false), (11, false), (14, false), (15, false), (16, false), (17, false), (19, false), (21, false), (24, false), (25, false), (6, true), (8, true), (9, false), (12, false), (13, false), (18, false), (20, true), (22, true), (23, false), (26, false), (27, false), (28, false), (29, true)] (fun w' => w'.cell? ⟨w.heap.size + 1 + 1, j, none⟩ = some (.int .u32 xj) ∧ w'.cell? ⟨w.heap.size + 1 + 1, m9, none⟩ = some (.int .u32 x9)) (by kernel_rfl) (by kernel_rfl) rfl (by kernel_rfl) (by intro _ _ d _ _ h; cases d <;> exact h) (⟨cj, c9⟩) ?_; simp only [List.map_cons, List.map_nil, List.getElem?_toArray, List.getElem?_cons_zero, List.getElem?_cons_succ, Option.getD_some]
          repeat (first | (refine ro_q (by rfl) (v := ?_) ?_ ?_; rotate_left; (focus (intro w' hSw; (try dsimp only at hSw); go_simp; try with_reducible rfl)); simp only [Act.put, List.setIfInBounds_toArray, List.set_cons_zero, List.set_cons_succ]) | (refine ro_skip (by rfl) ?_; simp only [Act.put, List.setIfInBounds_toArray, List.set_cons_zero, List.set_cons_succ]))
          (refine ro_loud (by rfl) (fun K hK => ?_); go_simp)
          refine (turn_any _ _ _ u1 (by decide)).mono ?_
          rintro e w5 ⟨rfl, rfl⟩
          (refine hK.out _ _ (fun w' => w'.cell? ⟨w.heap.size + 1 + 1, j, none⟩ = some (.int .u32 xj) ∧ w'.cell? ⟨w.heap.size + 1 + 1, m9, none⟩ = some (.int .u32 x9)) (fun _ h => h) (⟨cj, c9⟩) ?_; clear hK K; try simp only [Act.put, List.setIfInBounds_toArray, List.set_cons_zero, List.set_cons_succ])
          repeat (first | (refine ro_q (by rfl) (v := ?_) ?_ ?_; rotate_left; (focus (intro w' hSw; (try dsimp only at hSw); go_simp; try with_reducible rfl)); simp only [Act.put, List.setIfInBounds_toArray, List.set_cons_zero, List.set_cons_succ]) | (refine ro_skip (by rfl) ?_; simp only [Act.put, List.setIfInBounds_toArray, List.set_cons_zero, List.set_cons_succ]))
          (refine ro_loud (by rfl) (fun K hK => ?_); go_simp)
          refine (turn_any _ _ _ u1 (by decide)).mono ?_
          rintro e w5 ⟨rfl, rfl⟩
          (refine hK.out _ _ (fun w' => w'.cell? ⟨w.heap.size + 1 + 1, j, none⟩ = some (.int .u32 xj) ∧ w'.cell? ⟨w.heap.size + 1 + 1, m9, none⟩ = some (.int .u32 x9)) (fun _ h => h) (⟨cj, c9⟩) ?_; clear hK K; try simp only [Act.put, List.setIfInBounds_toArray, List.set_cons_zero, List.set_cons_succ])
          repeat (first | (refine ro_q (by rfl) (v := ?_) ?_ ?_; rotate_left; (focus (intro w' hSw; (try dsimp only at hSw); go_simp; try with_reducible rfl)); simp only [Act.put, List.setIfInBounds_toArray, List.set_cons_zero, List.set_cons_succ]) | (refine ro_skip (by rfl) ?_; simp only [Act.put, List.setIfInBounds_toArray, List.set_cons_zero, List.set_cons_succ]))
          (refine ro_loud (by rfl) (fun K hK => ?_); go_simp)
          refine (turn_any _ _ _ u14 (by decide)).mono ?_
          rintro e w5 ⟨rfl, rfl⟩
          (refine hK.out _ _ (fun w' => w'.cell? ⟨w.heap.size + 1 + 1, j, none⟩ = some (.int .u32 xj) ∧ w'.cell? ⟨w.heap.size + 1 + 1, m9, none⟩ = some (.int .u32 x9)) (fun _ h => h) (⟨cj, c9⟩) ?_; clear hK K; try simp only [Act.put, List.setIfInBounds_toArray, List.set_cons_zero, List.set_cons_succ])
          repeat (first | (refine ro_q (by rfl) (v := ?_) ?_ ?_; rotate_left; (focus (intro w' hSw; (try dsimp only at hSw); go_simp; try with_reducible rfl)); simp only [Act.put, List.setIfInBounds_toArray, List.set_cons_zero, List.set_cons_succ]) | (refine ro_skip (by rfl) ?_; simp only [Act.put, List.setIfInBounds_toArray, List.set_cons_zero, List.set_cons_succ]))
          (refine ro_loud (by rfl) (fun K hK => ?_); go_simp)
          refine (turn_any _ _ _ u14 (by decide)).mono ?_
          rintro e w5 ⟨rfl, rfl⟩
          (refine hK.out _ _ (fun w' => w'.cell? ⟨w.heap.size + 1 + 1, j, none⟩ = some (.int .u32 xj) ∧ w'.cell? ⟨w.heap.size + 1 + 1, m9, none⟩ = some (.int .u32 x9)) (fun _ h => h) (⟨cj, c9⟩) ?_; clear hK K; try simp only [Act.put, List.setIfInBounds_toArray, List.set_cons_zero, List.set_cons_succ])
          repeat (first | (refine ro_q (by rfl) (v := ?_) ?_ ?_; rotate_left; (focus (intro w' hSw; (try dsimp only at hSw); go_simp; try with_reducible rfl)); simp only [Act.put, List.setIfInBounds_toArray, List.set_cons_zero, List.set_cons_succ]) | (refine ro_skip (by rfl) ?_; simp only [Act.put, List.setIfInBounds_toArray, List.set_cons_zero, List.set_cons_succ]))
          (refine ro_loud (by rfl) (fun K hK => ?_); go_simp)
          (refine hK.out _ _ (fun w' => w'.cell? ⟨w.heap.size + 1 + 1, j, none⟩ = some (.int .u32 xj) ∧ w'.cell? ⟨w.heap.size + 1 + 1, m9, none⟩ = some (.int .u32 x9)) (fun _ h => h) (⟨cell_far (w := wr) cj NK.out.1, cell_far (w := wr) c9 NK.out.2⟩) ?_; clear hK K; try simp only [Act.put, List.setIfInBounds_toArray, List.set_cons_zero, List.set_cons_succ])
          (refine ro_nil ?_; go_wp2_with fail)
          go_roundw
          case rel =>
            refine ⟨j + 1, by rw [HK.out]; go_num, by omega, ?_⟩
            have hfin := (hB.set k (sched (wsB b j) j)).drew.drew
            rw [HJ.out] at hfin
            rw [wsB, HJ.out, ← HK.out]
            exact hfin
          case measure => simp [intOf]; omega
        · have hj48 : j = 48 := by omega
          rw [hj48] at hB
          have hkb2 : decide ((k : Int) < 64) = false := by simp; omega
          clear hj48 hj h48 hk
          generalize (k : Int) = kz2 at *
          clear k j
          obtain ⟨a0, a1, a2, a3, a4, a5, a6, a7⟩ := row8 hB.h0
          go_wp2_with fail
          have hsz3 := lt_of_block hB.h2
          have hB0 := hB
          obtain ⟨wo, rfl⟩ : ∃ wo : World, wo = wr := ⟨_, rfl⟩
          go_loopw [94] (fun i wr => ∃ k : Nat, i = .int .i64 k ∧ k ≤ 64 ∧ BlkS w wr wo.heap.size hd (wsB b 48) (rounds64 b hd k)) (fun i _ => 64 - (intOf i).toNat)
          case atStart => exact ⟨0, rfl, by omega, blkS_start hB⟩
          case round =>
            clear hB hB0 a0 a1 a2 a3 a4 a5 a6 a7
            obtain ⟨k, rfl, hk, hS⟩ := hrel
            by_cases h64 : k < 64
            · have hso := rounds64_ok b hd hok k
              have hlen := wsB_length b 48
              have k64 : (k : Int) < 64 := by omega
              have k0 : (0 : Int) ≤ (k : Int) := by omega
              have hrf : rounds64 b hd (k + 1) = roundF (rounds64 b hd k) (shaK.getD k 0) ((wsB b 48).getD k 0) := rfl
              have cw : wr.cell? ⟨w.heap.size + 1 + 1, k, none⟩ = some (.int .u32 ((wsB b 48).getD k 0)) := by rw [row_cell hS.blk.h2, u32s_get (by omega)]
              have ct : wr.cell? ⟨0, k, none⟩ = some (.int .u32 (shaK.getD k 0)) := by rw [hS.blk.bel.cell (p := ⟨0, k, none⟩) HTB.out]; exact htab.out k h64
              have HRF := Lib.hid hrf
              generalize rounds64 b hd k = s at *
              generalize shaK.getD k 0 = kk at *
              generalize (wsB b 48).getD k 0 = ww at *
              clear hrf hlen
              obtain ⟨a0, a1, a2, a3, a4, a5, a6, a7⟩ := row8 hS.h3
              obtain ⟨ua, ub, uc, ud, ue, uf, ug, uh⟩ := hso
              go_wp2_with fail
              refine wp_region_order [(0, false), (1, false), (2, false), (3, false), (4, false), (5, false)] (fun w' => w'.cell? ⟨wo.heap.size, 4, none⟩ = some (.int .u32 s.e) ∧ w'.cell? ⟨wo.heap.size, 0, none⟩ = some (.int .u32 s.a)) (by kernel_rfl) (by kernel_rfl) rfl (by kernel_rfl) (by intro _ _ d _ _ h; cases d <;> exact h) (⟨a4, a0⟩) ?_; simp only [List.map_cons, List.map_nil, List.getElem?_toArray, List.getElem?_cons_zero, List.getElem?_cons_succ, Option.getD_some]
              repeat (first | (refine ro_q (by rfl) (v := ?_) ?_ ?_; rotate_left; (focus (intro w' hSw; (try dsimp only at hSw); go_simp; try with_reducible rfl)); simp only [Act.put, List.setIfInBounds_toArray, List.set_cons_zero, List.set_cons_succ]) | (refine ro_skip (by rfl) ?_; simp only [Act.put, List.setIfInBounds_toArray, List.set_cons_zero, List.set_cons_succ]))
              (refine ro_nil ?_; go_wp2_with fail)
              refine wp_region_order [(0, false), (1, false), (2, false), (4, false), (7, false), (11, false), (12, false), (13, false), (14, false), (15, false), (16, false), (17, false), (18, false), (19, false), (20, false), (22, false), (23, false), (24, false), (26, false), (27, false), (28, false), (3, true), (5, true), (6, false), (8, true), (9, false), (10, false), (21, false), (25, false), (29, false), (30, false)] (fun w' => w'.cell? ⟨wo.heap.size, 0, none⟩ = some (.int .u32 s.a) ∧ w'.cell? ⟨wo.heap.size, 1, none⟩ = some (.int .u32 s.b) ∧ w'.cell? ⟨wo.heap.size, 2, none⟩ = some (.int .u32 s.c) ∧ w'.cell? ⟨wo.heap.size, 3, none⟩ = some (.int .u32 s.d) ∧ w'.cell? ⟨wo.heap.size, 4, none⟩ = some (.int .u32 s.e) ∧ w'.cell? ⟨wo.heap.size, 5, none⟩ = some (.int .u32 s.f) ∧ w'.cell? ⟨wo.heap.size, 6, none⟩ = some (.int .u32 s.g) ∧ w'.cell? ⟨wo.heap.size, 7, none⟩ = some (.int .u32 s.h) ∧ w'.cell? ⟨0, k, none⟩ = some (.int .u32 kk) ∧ w'.cell? ⟨w.heap.size + 1 + 1, k, none⟩ = some (.int .u32 ww)) (by kernel_rfl) (by kernel_rfl) rfl (by kernel_rfl) (by intro _ _ d _ _ h; cases d <;> exact h) (⟨a0, a1, a2, a3, a4, a5, a6, a7, ct, cw⟩) ?_; simp only [List.map_cons, List.map_nil, List.getElem?_toArray, List.getElem?_cons_zero, List.getElem?_cons_succ, Option.getD_some]
              repeat (first | (refine ro_q (by rfl) (v := ?_) ?_ ?_; rotate_left; (focus (intro w' hSw; (try dsimp only at hSw); go_simp; try with_reducible rfl)); simp only [Act.put, List.setIfInBounds_toArray, List.set_cons_zero, List.set_cons_succ]) | (refine ro_skip (by rfl) ?_; simp only [Act.put, List.setIfInBounds_toArray, List.set_cons_zero, List.set_cons_succ]))
              (refine ro_loud (by rfl) (fun K hK => ?_); go_simp)
              refine (turn_any _ _ _ ue (by decide)).mono ?_
              rintro e w5 ⟨rfl, rfl⟩
              (refine hK.out _ _ (fun w' => w'.cell? ⟨wo.heap.size, 0, none⟩ = some (.int .u32 s.a) ∧ w'.cell? ⟨wo.heap.size, 1, none⟩ = some (.int .u32 s.b) ∧ w'.cell? ⟨wo.heap.size, 2, none⟩ = some (.int .u32 s.c) ∧ w'.cell? ⟨wo.heap.size, 3, none⟩ = some (.int .u32 s.d) ∧ w'.cell? ⟨wo.heap.size, 4, none⟩ = some (.int .u32 s.e) ∧ w'.cell? ⟨wo.heap.size, 5, none⟩ = some (.int .u32 s.f) ∧ w'.cell? ⟨wo.heap.size, 6, none⟩ = some (.int .u32 s.g) ∧ w'.cell? ⟨wo.heap.size, 7, none⟩ = some (.int .u32 s.h) ∧ w'.cell? ⟨0, k, none⟩ = some (.int .u32 kk) ∧ w'.cell? ⟨w.heap.size + 1 + 1, k, none⟩ = some (.int .u32 ww)) (fun _ h => h) (⟨a0, a1, a2, a3, a4, a5, a6, a7, ct, cw⟩) ?_; clear hK K; try simp only [Act.put, List.setIfInBounds_toArray, List.set_cons_zero, List.set_cons_succ])
              repeat (first | (refine ro_q (by rfl) (v := ?_) ?_ ?_; rotate_left; (focus (intro w' hSw; (try dsimp only at hSw); go_simp; try with_reducible rfl)); simp only [Act.put, List.setIfInBounds_toArray, List.set_cons_zero, List.set_cons_succ]) | (refine ro_skip (by rfl) ?_; simp only [Act.put, List.setIfInBounds_toArray, List.set_cons_zero, List.set_cons_succ]))
              (refine ro_loud (by rfl) (fun K hK => ?_); go_simp)
              refine (turn_any _ _ _ ue (by decide)).mono ?_
              rintro e w5 ⟨rfl, rfl⟩
              (refine hK.out _ _ (fun w' => w'.cell? ⟨wo.heap.size, 0, none⟩ = some (.int .u32 s.a) ∧ w'.cell? ⟨wo.heap.size, 1, none⟩ = some (.int .u32 s.b) ∧ w'.cell? ⟨wo.heap.size, 2, none⟩ = some (.int .u32 s.c) ∧ w'.cell? ⟨wo.heap.size, 3, none⟩ = some (.int .u32 s.d) ∧ w'.cell? ⟨wo.heap.size, 4, none⟩ = some (.int .u32 s.e) ∧ w'.cell? ⟨wo.heap.size, 5, none⟩ = some (.int .u32 s.f) ∧ w'.cell? ⟨wo.heap.size, 6, none⟩ = some (.int .u32 s.g) ∧ w'.cell? ⟨wo.heap.size, 7, none⟩ = some (.int .u32 s.h) ∧ w'.cell? ⟨0, k, none⟩ = some (.int .u32 kk) ∧ w'.cell? ⟨w.heap.size + 1 + 1, k, none⟩ = some (.int .u32 ww)) (fun _ h => h) (⟨a0, a1, a2, a3, a4, a5, a6, a7, ct, cw⟩) ?_; clear hK K; try simp only [Act.put, List.setIfInBounds_toArray, List.set_cons_zero, List.set_cons_succ])
              repeat (first | (refine ro_q (by rfl) (v := ?_) ?_ ?_; rotate_left; (focus (intro w' hSw; (try dsimp only at hSw); go_simp; try with_reducible rfl)); simp only [Act.put, List.setIfInBounds_toArray, List.set_cons_zero, List.set_cons_succ]) | (refine ro_skip (by rfl) ?_; simp only [Act.put, List.setIfInBounds_toArray, List.set_cons_zero, List.set_cons_succ]))
              (refine ro_loud (by rfl) (fun K hK => ?_); go_simp)
              refine (turn_any _ _ _ ue (by decide)).mono ?_
              rintro e w5 ⟨rfl, rfl⟩
              (refine hK.out _ _ (fun w' => w'.cell? ⟨wo.heap.size, 0, none⟩ = some (.int .u32 s.a) ∧ w'.cell? ⟨wo.heap.size, 1, none⟩ = some (.int .u32 s.b) ∧ w'.cell? ⟨wo.heap.size, 2, none⟩ = some (.int .u32 s.c) ∧ w'.cell? ⟨wo.heap.size, 3, none⟩ = some (.int .u32 s.d) ∧ w'.cell? ⟨wo.heap.size, 4, none⟩ = some (.int .u32 s.e) ∧ w'.cell? ⟨wo.heap.size, 5, none⟩ = some (.int .u32 s.f) ∧ w'.cell? ⟨wo.heap.size, 6, none⟩ = some (.int .u32 s.g) ∧ w'.cell? ⟨wo.heap.size, 7, none⟩ = some (.int .u32 s.h) ∧ w'.cell? ⟨0, k, none⟩ = some (.int .u32 kk) ∧ w'.cell? ⟨w.heap.size + 1 + 1, k, none⟩ = some (.int .u32 ww)) (fun _ h => h) (⟨a0, a1, a2, a3, a4, a5, a6, a7, ct, cw⟩) ?_; clear hK K; try simp only [Act.put, List.setIfInBounds_toArray, List.set_cons_zero, List.set_cons_succ])
              repeat (first | (refine ro_q (by rfl) (v := ?_) ?_ ?_; rotate_left; (focus (intro w' hSw; (try dsimp only at hSw); go_simp; try with_reducible rfl)); simp only [Act.put, List.setIfInBounds_toArray, List.set_cons_zero, List.set_cons_succ]) | (refine ro_skip (by rfl) ?_; simp only [Act.put, List.setIfInBounds_toArray, List.set_cons_zero, List.set_cons_succ]))
              (refine ro_nil ?_; go_wp2_with fail)
              refine wp_region_order [(0, false), (2, false), (5, false), (8, false), (9, false), (10, false), (11, false), (12, false), (13, false), (14, false), (15, false), (16, false), (17, false), (18, false), (19, false), (20, false), (21, false), (22, false), (1, true), (3, true), (4, false), (6, true), (7, false), (23, false), (24, false)] (fun w' => w'.cell? ⟨wo.heap.size, 0, none⟩ = some (.int .u32 s.a) ∧ w'.cell? ⟨wo.heap.size, 1, none⟩ = some (.int .u32 s.b) ∧ w'.cell? ⟨wo.heap.size, 2, none⟩ = some (.int .u32 s.c) ∧ w'.cell? ⟨wo.heap.size, 3, none⟩ = some (.int .u32 s.d) ∧ w'.cell? ⟨wo.heap.size, 4, none⟩ = some (.int .u32 s.e) ∧ w'.cell? ⟨wo.heap.size, 5, none⟩ = some (.int .u32 s.f) ∧ w'.cell? ⟨wo.heap.size, 6, none⟩ = some (.int .u32 s.g) ∧ w'.cell? ⟨wo.heap.size, 7, none⟩ = some (.int .u32 s.h) ∧ w'.cell? ⟨0, k, none⟩ = some (.int .u32 kk) ∧ w'.cell? ⟨w.heap.size + 1 + 1, k, none⟩ = some (.int .u32 ww)) (by kernel_rfl) (by kernel_rfl) rfl (by kernel_rfl) (by intro _ _ d _ _ h; cases d <;> exact h) (⟨a0, a1, a2, a3, a4, a5, a6, a7, ct, cw⟩) ?_; simp only [List.map_cons, List.map_nil, List.getElem?_toArray, List.getElem?_cons_zero, List.getElem?_cons_succ, Option.getD_some]
              repeat (first | (refine ro_q (by rfl) (v := ?_) ?_ ?_; rotate_left; (focus (intro w' hSw; (try dsimp only at hSw); go_simp; try with_reducible rfl)); simp only [Act.put, List.setIfInBounds_toArray, List.set_cons_zero, List.set_cons_succ]) | (refine ro_skip (by rfl) ?_; simp only [Act.put, List.setIfInBounds_toArray, List.set_cons_zero, List.set_cons_succ]))
              (refine ro_loud (by rfl) (fun K hK => ?_); go_simp)
              refine (turn_any _ _ _ ua (by decide)).mono ?_
              rintro e w5 ⟨rfl, rfl⟩
              (refine hK.out _ _ (fun w' => w'.cell? ⟨wo.heap.size, 0, none⟩ = some (.int .u32 s.a) ∧ w'.cell? ⟨wo.heap.size, 1, none⟩ = some (.int .u32 s.b) ∧ w'.cell? ⟨wo.heap.size, 2, none⟩ = some (.int .u32 s.c) ∧ w'.cell? ⟨wo.heap.size, 3, none⟩ = some (.int .u32 s.d) ∧ w'.cell? ⟨wo.heap.size, 4, none⟩ = some (.int .u32 s.e) ∧ w'.cell? ⟨wo.heap.size, 5, none⟩ = some (.int .u32 s.f) ∧ w'.cell? ⟨wo.heap.size, 6, none⟩ = some (.int .u32 s.g) ∧ w'.cell? ⟨wo.heap.size, 7, none⟩ = some (.int .u32 s.h) ∧ w'.cell? ⟨0, k, none⟩ = some (.int .u32 kk) ∧ w'.cell? ⟨w.heap.size + 1 + 1, k, none⟩ = some (.int .u32 ww)) (fun _ h => h) (⟨a0, a1, a2, a3, a4, a5, a6, a7, ct, cw⟩) ?_; clear hK K; try simp only [Act.put, List.setIfInBounds_toArray, List.set_cons_zero, List.set_cons_succ])
              repeat (first | (refine ro_q (by rfl) (v := ?_) ?_ ?_; rotate_left; (focus (intro w' hSw; (try dsimp only at hSw); go_simp; try with_reducible rfl)); simp only [Act.put, List.setIfInBounds_toArray, List.set_cons_zero, List.set_cons_succ]) | (refine ro_skip (by rfl) ?_; simp only [Act.put, List.setIfInBounds_toArray, List.set_cons_zero, List.set_cons_succ]))
              (refine ro_loud (by rfl) (fun K hK => ?_); go_simp)
              refine (turn_any _ _ _ ua (by decide)).mono ?_
              rintro e w5 ⟨rfl, rfl⟩
              (refine hK.out _ _ (fun w' => w'.cell? ⟨wo.heap.size, 0, none⟩ = some (.int .u32 s.a) ∧ w'.cell? ⟨wo.heap.size, 1, none⟩ = some (.int .u32 s.b) ∧ w'.cell? ⟨wo.heap.size, 2, none⟩ = some (.int .u32 s.c) ∧ w'.cell? ⟨wo.heap.size, 3, none⟩ = some (.int .u32 s.d) ∧ w'.cell? ⟨wo.heap.size, 4, none⟩ = some (.int .u32 s.e) ∧ w'.cell? ⟨wo.heap.size, 5, none⟩ = some (.int .u32 s.f) ∧ w'.cell? ⟨wo.heap.size, 6, none⟩ = some (.int .u32 s.g) ∧ w'.cell? ⟨wo.heap.size, 7, none⟩ = some (.int .u32 s.h) ∧ w'.cell? ⟨0, k, none⟩ = some (.int .u32 kk) ∧ w'.cell? ⟨w.heap.size + 1 + 1, k, none⟩ = some (.int .u32 ww)) (fun _ h => h) (⟨a0, a1, a2, a3, a4, a5, a6, a7, ct, cw⟩) ?_; clear hK K; try simp only [Act.put, List.setIfInBounds_toArray, List.set_cons_zero, List.set_cons_succ])
              repeat (first | (refine ro_q (by rfl) (v := ?_) ?_ ?_; rotate_left; (focus (intro w' hSw; (try dsimp only at hSw); go_simp; try with_reducible rfl)); simp only [Act.put, List.setIfInBounds_toArray, List.set_cons_zero, List.set_cons_succ]) | (refine ro_skip (by rfl) ?_; simp only [Act.put, List.setIfInBounds_toArray, List.set_cons_zero, List.set_cons_succ]))
              (refine ro_loud (by rfl) (fun K hK => ?_); go_simp)
              refine (turn_any _ _ _ ua (by decide)).mono ?_
              rintro e w5 ⟨rfl, rfl⟩
              (refine hK.out _ _ (fun w' => w'.cell? ⟨wo.heap.size, 0, none⟩ = some (.int .u32 s.a) ∧ w'.cell? ⟨wo.heap.size, 1, none⟩ = some (.int .u32 s.b) ∧ w'.cell? ⟨wo.heap.size, 2, none⟩ = some (.int .u32 s.c) ∧ w'.cell? ⟨wo.heap.size, 3, none⟩ = some (.int .u32 s.d) ∧ w'.cell? ⟨wo.heap.size, 4, none⟩ = some (.int .u32 s.e) ∧ w'.cell? ⟨wo.heap.size, 5, none⟩ = some (.int .u32 s.f) ∧ w'.cell? ⟨wo.heap.size, 6, none⟩ = some (.int .u32 s.g) ∧ w'.cell? ⟨wo.heap.size, 7, none⟩ = some (.int .u32 s.h) ∧ w'.cell? ⟨0, k, none⟩ = some (.int .u32 kk) ∧ w'.cell? ⟨w.heap.size + 1 + 1, k, none⟩ = some (.int .u32 ww)) (fun _ h => h) (⟨a0, a1, a2, a3, a4, a5, a6, a7, ct, cw⟩) ?_; clear hK K; try simp only [Act.put, List.setIfInBounds_toArray, List.set_cons_zero, List.set_cons_succ])
              repeat (first | (refine ro_q (by rfl) (v := ?_) ?_ ?_; rotate_left; (focus (intro w' hSw; (try dsimp only at hSw); go_simp; try with_reducible rfl)); simp only [Act.put, List.setIfInBounds_toArray, List.set_cons_zero, List.set_cons_succ]) | (refine ro_skip (by rfl) ?_; simp only [Act.put, List.setIfInBounds_toArray, List.set_cons_zero, List.set_cons_succ]))
              (refine ro_nil ?_; go_wp2_with fail)
              refine wp_region_order [(0, false), (1, false), (2, true)] (fun _ => True) (by kernel_rfl) (by kernel_rfl) rfl (by kernel_rfl) (by intro _ _ d _ _ h; cases d <;> exact h) (trivial) ?_; simp only [List.map_cons, List.map_nil, List.getElem?_toArray, List.getElem?_cons_zero, List.getElem?_cons_succ, Option.getD_some]
              repeat (first | (refine ro_q (by rfl) (v := ?_) ?_ ?_; rotate_left; (focus (intro w' hSw; (try dsimp only at hSw); go_simp; try with_reducible rfl)); simp only [Act.put, List.setIfInBounds_toArray, List.set_cons_zero, List.set_cons_succ]) | (refine ro_skip (by rfl) ?_; simp only [Act.put, List.setIfInBounds_toArray, List.set_cons_zero, List.set_cons_succ]))
              refine ro_loud (by rfl) (fun K hK => ?_)
              refine wp_copy_runI _ (.tmp 155) (.tmp 156) 141 141 rfl _ _ (by rfl) (by rfl) (copy8 (s := s) hS.drew.drew.drew.drew.h3 141 141 _ 102 rfl rfl) ?_
              have hS2 := hS.drew.drew.drew.drew.copy
              clear hS a0 a1 a2 a3 a4 a5 a6 a7 ct cw
              generalize wr.drew.drew.drew.drew.setRow wo.heap.size (u32s [s.a, s.a, s.b, s.c, s.d, s.e, s.f, s.g]).toArray = w2 at *
              obtain ⟨b0, _, _, _, b4, _, _, _⟩ := row8 hS2.h3
              have f0 : w2.frozen? ⟨wo.heap.size, 0, none⟩ = false := row_free hS2.h3 0
              have f4 : w2.frozen? ⟨wo.heap.size, 4, none⟩ = false := row_free hS2.h3 4
              (refine hK.out _ _ (fun _ => True) (fun _ h => h) (trivial) ?_; clear hK K; try simp only [Act.put, List.setIfInBounds_toArray, List.set_cons_zero, List.set_cons_succ])
              (refine ro_nil ?_; go_wp2_with fail)
              go_roundw
              case rel =>
                refine ⟨k + 1, by go_num, by omega, ?_⟩
                rw [HRF.out]
                have hfin := (hS2.set4 ((s.d + roundT s kk ww) % 4294967296)).set0 ((roundT s kk ww + roundU s) % 4294967296)
                show BlkS _ _ _ _ _ ⟨(roundT s kk ww + roundU s) % 4294967296, s.a, s.b, s.c, (s.d + roundT s kk ww) % 4294967296, s.e, s.f, s.g⟩
                simp only [roundT, roundU, Int.emod_add_emod, Int.add_emod_emod] at hfin ⊢
                exact hfin
              case measure => simp [intOf]; omega
            · have hk64 : k = 64 := by omega
              rw [hk64] at hS
              have hkb : decide ((k : Int) < 64) = false := by simp; omega
              clear hk64 hk h64
              generalize (k : Int) = kz3 at *
              clear k
              go_wp2_with fail
              have hE0 : BlkE w wr wo.heap.size (rounds64 b hd 64) (addTo hd (rounds64 b hd 64) 0) := ⟨hS.blk.h0, hS.blk.h1, hS.h3, hS.far, hS.blk.bel⟩
              clear hS
              obtain ⟨wp, hwp⟩ : ∃ wp : World, wp = wr := ⟨_, rfl⟩
              rw [← hwp] at hE0 ⊢
              clear hwp
              go_loopw [168] (fun i wr => ∃ k : Nat, i = .int .i64 k ∧ k ≤ 8 ∧ BlkE w wr wo.heap.size (rounds64 b hd 64) (addTo hd (rounds64 b hd 64) k)) (fun i _ => 8 - (intOf i).toNat)
              case atStart => exact ⟨0, rfl, by omega, hE0⟩
              case round =>
                clear hE0
                obtain ⟨k, rfl, hk, hE⟩ := hrel
                by_cases h8 : k < 8
                · have hlen := addTo_length hd (rounds64 b hd 64) k
                  have hE1 := hE.drew
                  have hne : w.heap.size ≠ wo.heap.size := by have := hE.far; omega
                  have k8 : (k : Int) < 8 := by omega
                  have k0 : (0 : Int) ≤ (k : Int) := by omega
                  have ch : wr.cell? ⟨w.heap.size, k, none⟩ = some (.int .u32 (hd.list.getD k 0)) := by rw [row_cell hE.h0, u32s_get (by omega), addTo_get _ _ _ _ (Nat.le_refl _)]
                  have fh : wr.frozen? ⟨w.heap.size, k, none⟩ = false := row_free hE.h0 k
                  have cs : wr.cell? ⟨wo.heap.size, k, none⟩ = some (.int .u32 ((rounds64 b hd 64).list.getD k 0)) := by rw [row_cell hE.h3, u32s_get (by simp [Hd.list]; omega)]
                  have HAD : Hid (addTo hd (rounds64 b hd 64) (k + 1) = (addTo hd (rounds64 b hd 64) k).set k ((hd.list.getD k 0 + (rounds64 b hd 64).list.getD k 0) % 4294967296)) := Lib.hid rfl
                  generalize hd.list.getD k 0 = x at *
                  generalize (rounds64 b hd 64).list.getD k 0 = y at *
                  clear hlen
                  go_wp2_with fail
                  refine Lone.wp_region_order [(0, false), (1, false), (2, false), (3, false), (4, false), (5, false), (6, false), (7, false), (8, true)] (fun w' => w'.cell? ⟨w.heap.size, k, none⟩ = some (.int .u32 x) ∧ w'.cell? ⟨wo.heap.size, k, none⟩ = some (.int .u32 y)) (by kernel_rfl) (by kernel_rfl) rfl (by kernel_rfl) (by intro _ _ d _ _ h; cases d <;> exact h) (⟨ch, cs⟩) ?_; simp only [List.map_cons, List.map_nil, List.getElem?_toArray, List.getElem?_cons_zero, List.getElem?_cons_succ, Option.getD_some]
                  repeat (first | (refine Lone.ro_q (by rfl) (v := ?_) ?_ ?_; rotate_left; (focus (intro w' hSw; (try dsimp only at hSw); go_simp; try with_reducible rfl)); simp only [Act.put, List.setIfInBounds_toArray, List.set_cons_zero, List.set_cons_succ]) | (refine Lone.ro_skip (by rfl) ?_; simp only [Act.put, List.setIfInBounds_toArray, List.set_cons_zero, List.set_cons_succ]))
                  (refine Lone.ro_loud (by rfl) (fun K hK => ?_); go_simp)
                  (refine hK.out _ _ (fun _ => True) (.inr (by kernel_rfl)) (trivial) ?_; clear hK K; try simp only [Act.put, List.setIfInBounds_toArray, List.set_cons_zero, List.set_cons_succ])
                  (refine Lone.ro_nil ?_; go_wp2_with fail)
                  go_roundw
                  case rel =>
                    refine ⟨k + 1, by go_num, by omega, ?_⟩
                    rw [HAD.out]
                    exact (hE.set k _).drew
                  case measure => simp [intOf]; omega
                · have hk8 : k = 8 := by omega
                  rw [hk8] at hE
                  have hkb : decide ((k : Int) < 8) = false := by simp; omega
                  clear hk8 hk h8
                  generalize (k : Int) = kz4 at *
                  clear k
                  have hE8 : wr.heap[w.heap.size]? = some (.cells (u32s (blockF hd b).list).toArray 103 (0, 0)) := hE.h0
                  obtain ⟨c0, c1, c2, c3, c4, c5, c6, c7⟩ := row8 hE8
                  obtain ⟨d0, d1, d2, d3, d4, d5, d6, d7⟩ := row8 (s := ⟨0, 0, 0, 0, 0, 0, 0, 0⟩) hE.h1
                  have z0 := row_free hE.h1 0
                  have z1 := row_free hE.h1 1
                  have z2 := row_free hE.h1 2
                  have z3 := row_free hE.h1 3
                  have z4 := row_free hE.h1 4
                  have z5 := row_free hE.h1 5
                  have z6 := row_free hE.h1 6
                  have z7 := row_free hE.h1 7
                  have HBel := Lib.hid hE.bel
                  clear hE hE8
                  go_wp2_with fail
                  refine bodyPost_ret (v := hdV (blockF hd b)) ?_ rfl ⟨rfl, ?_⟩
                  · simp [results, Tryd.f72, go_sem, hdV, d0, d1, d2, d3, d4, d5, d6, d7]
                  · exact (((((((HBel.out.setCell (by simp) _).setCell (by simp) _).setCell (by simp) _).setCell (by simp) _).setCell (by simp) _).setCell (by simp) _).setCell (by simp) _).setCell (by simp) _
end Go.Proofs.YtinhjnbgblieeaaDoor
