/- The walk of sum.Seal. -/
import Derived.Test.YtinhjnbgblieeaaDoorSumSum
import Derived.Test.YtinhjnbgblieeaaDoorMark
import Derived.Test.YtinhjnbgblieeaaDoorBlk
namespace Go.Proofs.YtinhjnbgblieeaaDoor
open Go.RowKit
set_option linter.unusedVariables false
set_option linter.unusedSimpArgs false

/-- Byte i of a pad. -/
def padB (c : UInt8) (key : ByteArray) (i : Nat) : UInt8 := if i < key.size then c ^^^ key.data.toList.getD i 0 else c
def padL (c : UInt8) (key : ByteArray) : Nat → List UInt8
  | 0 => List.replicate 64 0
  | i + 1 => (padL c key i).set i (padB c key i)
theorem padL_length (c : UInt8) (key : ByteArray) : ∀ i, (padL c key i).length = 64
  | 0 => by simp [padL]
  | i + 1 => by rw [padL, List.length_set, padL_length c key i]
def padS (c : UInt8) (key : ByteArray) : ByteArray := ⟨(padL c key 64).toArray⟩
theorem padS_size (c : UInt8) (key : ByteArray) : (padS c key).size = 64 := by
  show (padL c key 64).toArray.size = 64
  rw [List.size_toArray, padL_length]
/-- The key that a seal works with. -/
def keyN (key : ByteArray) : ByteArray := if key.size ≤ 64 then key else sumF key
theorem sumF_size (b : ByteArray) : (sumF b).size = 32 := endF_size _
theorem keyN_size (key : ByteArray) : (keyN key).size ≤ 64 := by
  unfold keyN; split
  · assumption
  · rw [sumF_size]; decide
def sealF (key b : ByteArray) : ByteArray := sumF (padS 92 (keyN key) ++ sumF (padS 54 (keyN key) ++ b))
theorem bvs_set (l : List UInt8) (i : Nat) (c : UInt8) : (bvs l).set i (.int .u8 (c.toNat : Int)) = bvs (l.set i c) := by simp [bvs, List.map_set]
theorem set_twice {α : Type} (l : List α) (i : Nat) (x y : α) : (l.set i x).set i y = l.set i y := by simp
theorem xor_u8 (a b : UInt8) : bits .xor .u8 (a.toNat : Int) (b.toNat : Int) = ((a ^^^ b).toNat : Int) := by
  rw [u8_xor_nat _ _ (UInt8.toNat_lt a) (UInt8.toNat_lt b), UInt8.toNat_xor]
theorem key_at (key : ByteArray) (i : Nat) (h : i < key.size) : key[i] = key.data.toList.getD i 0 := by
  have h' : i < key.data.toList.length := by rw [Array.length_toList]; exact h
  rw [List.getD, List.getElem?_eq_getElem h']; rfl
/-- A pad's cells behind a round. -/
theorem pad_in (c : UInt8) (key : ByteArray) (i : Nat) (h : i < key.size) :
    ((bvs (padL c key i)).set i (.int .u8 (c.toNat : Int))).set i (.int .u8 (bits .xor .u8 (c.toNat : Int) (key[i].toNat : Int))) = bvs (padL c key (i + 1)) := by
  rw [set_twice, xor_u8, bvs_set, key_at key i h, padL, padB, if_pos h]
theorem pad_out (c : UInt8) (key : ByteArray) (i : Nat) (h : ¬ i < key.size) :
    (bvs (padL c key i)).set i (.int .u8 (c.toNat : Int)) = bvs (padL c key (i + 1)) := by
  rw [bvs_set, padL, padB, if_neg h]

theorem pad_in54 (key : ByteArray) (i : Nat) (h : i < key.size) :
    ((bvs (padL 54 key i)).set i (.int .u8 54)).set i (.int .u8 (bits .xor .u8 54 (key[i].toNat : Int))) = bvs (padL 54 key (i + 1)) := pad_in 54 key i h
theorem pad_out54 (key : ByteArray) (i : Nat) (h : ¬ i < key.size) : (bvs (padL 54 key i)).set i (.int .u8 54) = bvs (padL 54 key (i + 1)) := pad_out 54 key i h
theorem pad_in92 (key : ByteArray) (i : Nat) (h : i < key.size) :
    ((bvs (padL 92 key i)).set i (.int .u8 92)).set i (.int .u8 (bits .xor .u8 92 (key[i].toNat : Int))) = bvs (padL 92 key (i + 1)) := pad_in 92 key i h
theorem pad_out92 (key : ByteArray) (i : Nat) (h : ¬ i < key.size) : (bvs (padL 92 key i)).set i (.int .u8 92) = bvs (padL 92 key (i + 1)) := pad_out 92 key i h

/-- The two pads at work. -/
structure SealW (w wr : World) (g : Nat) (xs ys : List Value) : Prop where
  h0 : wr.heap[g]? = some (.cells xs.toArray 81 (0, 0))
  h1 : wr.heap[g + 1]? = some (.cells ys.toArray 81 (0, 0))
  lo : w.heap.size ≤ g
  bel : Below w.heap.size w wr
theorem SealW.set0 {w wr : World} {g : Nat} {xs ys : List Value} (h : SealW w wr g xs ys) (i : Nat) (u : Value) : SealW w (wr.setCell ⟨g, i, none⟩ u) g (xs.set i u) ys :=
  ⟨row_set h.h0 i u, by rw [Below.heap_setCell _ _ _ _ (by simp)]; exact h.h1, h.lo, h.bel.setCell h.lo _⟩
theorem SealW.set1 {w wr : World} {g : Nat} {xs ys : List Value} (h : SealW w wr g xs ys) (i : Nat) (u : Value) : SealW w (wr.setCell ⟨g + 1, i, none⟩ u) g xs (ys.set i u) :=
  ⟨by rw [Below.heap_setCell _ _ _ _ (by simp)]; exact h.h0, row_set h.h1 i u, h.lo, h.bel.setCell (by have := h.lo; simp; omega) _⟩
theorem SealW.drew {w wr : World} {g : Nat} {xs ys : List Value} (h : SealW w wr g xs ys) : SealW w wr.drew g xs ys := ⟨h.h0, h.h1, h.lo, h.bel.drew⟩
theorem rd_of_row {w : World} {g : Nat} {l : List UInt8} {t : TypeId} (h : w.heap[g]? = some (.cells (bvs l).toArray t (0, 0))) (hl : l.length = 64) : rdRow w 1 (.slice (some ⟨g, 0, none⟩) 64 64) 64 (bvs l) := by
  refine ⟨by rw [bvs_length, hl], _, 64, rfl, Nat.le_refl _, by decide, (fun h => by cases h), fun a ha j u hu => ?_⟩
  obtain rfl := Option.some.inj ha
  rw [addr_add, Nat.zero_add, row_cell h]
  exact hu

set_option maxRecDepth 100000 in
set_option maxHeartbeats 1600000 in
theorem seal_any (key b : ByteArray) (w : World) (hb : b.size ≤ 140737488355328) (hk0 : key.size ≤ 140737488355328) (ht : Tab w) :
    Calls Tryd.prog 17 #[.string key, .string b] w fun e w' => e = .returned (.string (sealF key b)) ∧ Below w.heap.size w w' := by
  have HT := Lib.hid ht
  clear ht
  by_cases hkl : key.size ≤ 64
  · have hkn : keyN key = key := by unfold keyN; rw [if_pos hkl]
    have hF : sealF key b = sumF (padS 92 key ++ sumF (padS 54 key ++ b)) := by unfold sealF; rw [hkn]
    rw [hF]
    clear hkn hF
    have HB1 := Lib.hid (Below.refl w.heap.size w)
    have hw1 : w.heap.size ≤ w.heap.size := Nat.le_refl _
    go_enter Tryd.func17, Tryd.ntmps17
    go_wp2_with fail
    have hS0 : SealW w ((w.alloc (.cells (bvs (padL 54 key 0)).toArray 81)).alloc (.cells (bvs (padL 92 key 0)).toArray 81)) w.heap.size (bvs (padL 54 key 0)) (bvs (padL 92 key 0)) :=
      ⟨by rw [Below.heap_alloc _ _ _ (by simp)]; exact heap_alloc_new _ _, by have := heap_alloc_new (w.alloc (.cells (bvs (padL 54 key 0)).toArray 81)) (.cells (bvs (padL 92 key 0)).toArray 81); simpa using this, hw1, (HB1.out.alloc hw1 _).alloc (Nat.le_trans hw1 (by simp)) _⟩
    go_loopw [13] (fun v wr => ∃ k : Nat, k ≤ 64 ∧ v = .int .i64 k ∧ SealW w wr w.heap.size (bvs (padL 54 key k)) (bvs (padL 92 key k))) (fun v _ => 64 - (intOf v).toNat)
    case atStart => exact ⟨0, by omega, rfl, hS0⟩
    case round =>
      clear hS0
      obtain ⟨k, hk, rfl, hS⟩ := hrel
      by_cases hlt : k < 64
      · have hkb : decide ((k : Int) < 64) = true := by simp; omega
        have hki : (k : Int) < 64 := by omega
        have c0 : wr.cell? ⟨w.heap.size, k, none⟩ = some (.int .u8 (((padL 54 key k).getD k 0).toNat : Int)) := by
          rw [row_cell hS.h0, bvs, List.getElem?_map, List.getD, List.getElem?_eq_getElem (by rw [padL_length]; exact hlt)]; rfl
        have c1 : wr.cell? ⟨w.heap.size + 1, k, none⟩ = some (.int .u8 (((padL 92 key k).getD k 0).toNat : Int)) := by
          rw [row_cell hS.h1, bvs, List.getElem?_map, List.getD, List.getElem?_eq_getElem (by rw [padL_length]; exact hlt)]; rfl
        have z0 := row_free hS.h0 k
        have z1 := row_free hS.h1 k
        have hS1 := (hS.set0 k (.int .u8 54)).set1 k (.int .u8 92)
        have HLT := Lib.hid hlt
        by_cases hkk : k < key.size
        · have hkkb : decide ((k : Int) < (key.size : Int)) = true := by simp; omega
          have hkki : (k : Int) < (key.size : Int) := by omega
          clear hlt hS
          go_wp2_with fail
          generalize (wr.setCell ⟨w.heap.size, k, none⟩ (.int .u8 54)).setCell ⟨w.heap.size + 1, k, none⟩ (.int .u8 92) = w2 at *
          have hl5 : k < (bvs (padL 54 key k)).length := by rw [bvs_length, padL_length]; omega
          have hl9 : k < (bvs (padL 92 key k)).length := by rw [bvs_length, padL_length]; omega
          have d0 : w2.cell? ⟨w.heap.size, k, none⟩ = some (.int .u8 54) := by rw [row_cell hS1.h0]; simp [hl5]
          have d1 : w2.cell? ⟨w.heap.size + 1, k, none⟩ = some (.int .u8 92) := by rw [row_cell hS1.h1]; simp [hl9]
          have y0 := row_free hS1.h0 k
          have y1 := row_free hS1.h1 k
          have ki0 : (0 : Int) ≤ (k : Int) := by omega
          refine Lone.wp_region_order [(0, false), (1, false), (2, false), (3, false), (4, false), (5, false), (6, false), (7, false), (8, true)] (fun w' => w'.cell? ⟨w.heap.size, k, none⟩ = some (.int .u8 54) ∧ w'.frozen? ⟨w.heap.size, k, none⟩ = false) (by kernel_rfl) (by kernel_rfl) rfl (by kernel_rfl) (by intro _ _ d _ _ h; cases d <;> exact h) (⟨d0, y0⟩) ?_; simp only [List.map_cons, List.map_nil, List.getElem?_toArray, List.getElem?_cons_zero, List.getElem?_cons_succ, Option.getD_some]
          repeat (first | (refine Lone.ro_q (by rfl) (v := ?_) ?_ ?_; rotate_left; (focus (intro w' hSw; (try dsimp only at hSw); go_simp; try with_reducible rfl)); simp only [Act.put, List.setIfInBounds_toArray, List.set_cons_zero, List.set_cons_succ]) | (refine Lone.ro_skip (by rfl) ?_; simp only [Act.put, List.setIfInBounds_toArray, List.set_cons_zero, List.set_cons_succ]))
          (refine Lone.ro_loud (by rfl) (fun K hK => ?_); go_simp)
          (refine hK.out _ _ (fun _ => True) (.inr (by kernel_rfl)) (trivial) ?_; clear hK K; try simp only [Act.put, List.setIfInBounds_toArray, List.set_cons_zero, List.set_cons_succ])
          (refine Lone.ro_nil ?_; go_wp2_with fail)
          have hS2 := (hS1.set0 k (.int .u8 (bits .xor .u8 54 (key[k].toNat : Int)))).drew
          rw [pad_in54 key k hkk] at hS2
          generalize (w2.setCell ⟨w.heap.size, k, none⟩ (.int .u8 (bits .xor .u8 54 (key[k].toNat : Int)))).drew = w3 at *
          have x1 : w3.cell? ⟨w.heap.size + 1, k, none⟩ = some (.int .u8 92) := by rw [row_cell hS2.h1]; simp [hl9]
          have v1 := row_free hS2.h1 k
          clear d0 d1 y0 y1 hS1 hl5 hl9
          refine Lone.wp_region_order [(0, false), (1, false), (2, false), (3, false), (4, false), (5, false), (6, false), (7, false), (8, true)] (fun w' => w'.cell? ⟨w.heap.size + 1, k, none⟩ = some (.int .u8 92) ∧ w'.frozen? ⟨w.heap.size + 1, k, none⟩ = false) (by kernel_rfl) (by kernel_rfl) rfl (by kernel_rfl) (by intro _ _ d _ _ h; cases d <;> exact h) (⟨x1, v1⟩) ?_; simp only [List.map_cons, List.map_nil, List.getElem?_toArray, List.getElem?_cons_zero, List.getElem?_cons_succ, Option.getD_some]
          repeat (first | (refine Lone.ro_q (by rfl) (v := ?_) ?_ ?_; rotate_left; (focus (intro w' hSw; (try dsimp only at hSw); go_simp; try with_reducible rfl)); simp only [Act.put, List.setIfInBounds_toArray, List.set_cons_zero, List.set_cons_succ]) | (refine Lone.ro_skip (by rfl) ?_; simp only [Act.put, List.setIfInBounds_toArray, List.set_cons_zero, List.set_cons_succ]))
          (refine Lone.ro_loud (by rfl) (fun K hK => ?_); go_simp)
          (refine hK.out _ _ (fun _ => True) (.inr (by kernel_rfl)) (trivial) ?_; clear hK K; try simp only [Act.put, List.setIfInBounds_toArray, List.set_cons_zero, List.set_cons_succ])
          (refine Lone.ro_nil ?_; go_wp2_with fail)
          have hS3 := (hS2.set1 k (.int .u8 (bits .xor .u8 92 (key[k].toNat : Int)))).drew
          rw [pad_in92 key k hkk] at hS3
          go_roundw
          case rel => exact ⟨k + 1, by have := HLT.out; omega, rfl, hS3⟩
          case measure =>
            have := HLT.out
            simp [intOf]; omega
        · have hkkb : decide ((k : Int) < (key.size : Int)) = false := by simp; omega
          have hkki : (key.size : Int) ≤ (k : Int) := by omega
          have hS3 := hS1
          rw [pad_out54 key k hkk, pad_out92 key k hkk] at hS3
          clear hlt hS hS1 hkk
          go_wp2_with fail
          go_roundw
          case rel => exact ⟨k + 1, by have := HLT.out; omega, rfl, hS3⟩
          case measure =>
            have := HLT.out
            simp [intOf]; omega
      · have h64 : k = 64 := by omega
        subst h64
        clear hk hlt
        have hkb : decide (((64 : Nat) : Int) < 64) = false := by decide
        have HP0 := Lib.hid (padS_size 54 key)
        have HP1 := Lib.hid (padS_size 92 key)
        have hz0 : (padS 54 key).size ≤ 64 := by rw [padS_size]; exact Nat.le_refl _
        have hz1 : (padS 92 key).size ≤ 64 := by rw [padS_size]; exact Nat.le_refl _
        have hz2 : (sumF (padS 54 key ++ b)).size ≤ 32 := by rw [sumF_size]; exact Nat.le_refl _
        have hs1 : (padS 54 key).size + b.size ≤ 9223372036854775807 := by omega
        have hs2 : (padS 92 key).size + (sumF (padS 54 key ++ b)).size ≤ 9223372036854775807 := by omega
        have HK0 := Lib.hid (fun (w' : World) (h : w'.heap[w.heap.size]? = some (.cells (bvs (padL 54 key 64)).toArray 81 (0, 0))) => run_bytes_string Tryd.underlying74 Tryd.underlying5 Tryd.underlying9 (rd_of_row h (padL_length 54 key 64)))
        have HK1 := Lib.hid (fun (w' : World) (h : w'.heap[w.heap.size + 1]? = some (.cells (bvs (padL 92 key 64)).toArray 81 (0, 0))) => run_bytes_string Tryd.underlying74 Tryd.underlying5 Tryd.underlying9 (rd_of_row h (padL_length 92 key 64)))
        have HSW := Lib.hid hS.drew
        have hh0 := hS.drew.h0
        have hh1 := hS.drew.h1
        clear hS
        go_wp2_with fail
        refine Lone.wp_region_order [(0, false), (1, false), (2, false), (3, false), (4, false), (5, false), (6, true), (7, false), (8, true), (9, false)] (fun w' => w'.heap[w.heap.size]? = some (.cells (bvs (padL 54 key 64)).toArray 81 (0, 0)) ∧ w'.heap[w.heap.size + 1]? = some (.cells (bvs (padL 92 key 64)).toArray 81 (0, 0))) (by kernel_rfl) (by kernel_rfl) rfl (by kernel_rfl) (by intro _ _ d _ _ h; cases d <;> exact h) (⟨hh0, hh1⟩) ?_; simp only [List.map_cons, List.map_nil, List.getElem?_toArray, List.getElem?_cons_zero, List.getElem?_cons_succ, Option.getD_some]
        repeat (first | (refine Lone.ro_q (by rfl) (v := ?_) ?_ ?_; rotate_left; (focus (intro w' hSw; (try dsimp only at hSw); go_simp; try with_reducible rfl)); simp only [Act.put, List.setIfInBounds_toArray, List.set_cons_zero, List.set_cons_succ]) | (refine Lone.ro_skip (by rfl) ?_; simp only [Act.put, List.setIfInBounds_toArray, List.set_cons_zero, List.set_cons_succ]))
        refine Lone.ro_q (by rfl) (v := .string (padS 92 key)) ?_ ?_
        · intro w' hSw
          have hk := HK1.out w' hSw.2
          simp only [execOp, Act.eval, List.getElem?_toArray, List.getElem?_cons_zero, List.getElem?_cons_succ, Array.getD_eq_getD_getElem?, Option.getD_some, Sem.run_bind, hk, Result.andThen, Sem.run_pure]
          rfl
        simp only [Act.put, List.setIfInBounds_toArray, List.set_cons_zero, List.set_cons_succ]
        repeat (first | (refine Lone.ro_q (by rfl) (v := ?_) ?_ ?_; rotate_left; (focus (intro w' hSw; (try dsimp only at hSw); go_simp; try with_reducible rfl)); simp only [Act.put, List.setIfInBounds_toArray, List.set_cons_zero, List.set_cons_succ]) | (refine Lone.ro_skip (by rfl) ?_; simp only [Act.put, List.setIfInBounds_toArray, List.set_cons_zero, List.set_cons_succ]))
        refine Lone.ro_q (by rfl) (v := .string (padS 54 key)) ?_ ?_
        · intro w' hSw
          have hk := HK0.out w' hSw.1
          simp only [execOp, Act.eval, List.getElem?_toArray, List.getElem?_cons_zero, List.getElem?_cons_succ, Array.getD_eq_getD_getElem?, Option.getD_some, Sem.run_bind, hk, Result.andThen, Sem.run_pure]
          rfl
        simp only [Act.put, List.setIfInBounds_toArray, List.set_cons_zero, List.set_cons_succ]
        repeat (first | (refine Lone.ro_q (by rfl) (v := ?_) ?_ ?_; rotate_left; (focus (intro w' hSw; (try dsimp only at hSw); go_simp; try with_reducible rfl)); simp only [Act.put, List.setIfInBounds_toArray, List.set_cons_zero, List.set_cons_succ]) | (refine Lone.ro_skip (by rfl) ?_; simp only [Act.put, List.setIfInBounds_toArray, List.set_cons_zero, List.set_cons_succ]))
        refine Lone.ro_q (by rfl) (v := .string (padS 54 key ++ b)) ?_ ?_
        · intro w' hSw
          go_simp
        simp only [Act.put, List.setIfInBounds_toArray, List.set_cons_zero, List.set_cons_succ]
        (refine Lone.ro_loud (by rfl) (fun K hK => ?_); go_simp)
        refine (sum_any (padS 54 key ++ b) _ (HT.out.below HSW.out.bel)).mono ?_
        rintro e w5 ⟨rfl, hb5⟩
        have j0 := blk_below hh0 hb5
        have j1 := blk_below hh1 hb5
        have HB5 := Lib.hid (HSW.out.bel.trans (hb5.mono HSW.out.bel.size))
        clear hb5
        (refine hK.out _ _ (fun w' => w'.heap[w.heap.size]? = some (.cells (bvs (padL 54 key 64)).toArray 81 (0, 0)) ∧ w'.heap[w.heap.size + 1]? = some (.cells (bvs (padL 92 key 64)).toArray 81 (0, 0))) (.inl fun _ h => h) (⟨j0, j1⟩) ?_; clear hK K; try simp only [Act.put, List.setIfInBounds_toArray, List.set_cons_zero, List.set_cons_succ])
        repeat (first | (refine Lone.ro_q (by rfl) (v := ?_) ?_ ?_; rotate_left; (focus (intro w' hSw; (try dsimp only at hSw); go_simp; try with_reducible rfl)); simp only [Act.put, List.setIfInBounds_toArray, List.set_cons_zero, List.set_cons_succ]) | (refine Lone.ro_skip (by rfl) ?_; simp only [Act.put, List.setIfInBounds_toArray, List.set_cons_zero, List.set_cons_succ]))
        refine Lone.ro_q (by rfl) (v := .string (padS 92 key ++ sumF (padS 54 key ++ b))) ?_ ?_
        · intro w' hSw
          go_simp
        simp only [Act.put, List.setIfInBounds_toArray, List.set_cons_zero, List.set_cons_succ]
        (refine Lone.ro_loud (by rfl) (fun K hK => ?_); go_simp)
        refine (sum_any (padS 92 key ++ sumF (padS 54 key ++ b)) _ (HT.out.below HB5.out)).mono ?_
        rintro e w6 ⟨rfl, hb6⟩
        have l0 := blk_below j0 hb6
        have l1 := blk_below j1 hb6
        have HB6 := Lib.hid (HB5.out.trans (hb6.mono HB5.out.size))
        clear hb6
        (refine hK.out _ _ (fun w' => w'.heap[w.heap.size]? = some (.cells (bvs (padL 54 key 64)).toArray 81 (0, 0)) ∧ w'.heap[w.heap.size + 1]? = some (.cells (bvs (padL 92 key 64)).toArray 81 (0, 0))) (.inl fun _ h => h) (⟨l0, l1⟩) ?_; clear hK K; try simp only [Act.put, List.setIfInBounds_toArray, List.set_cons_zero, List.set_cons_succ])
        repeat (first | (refine Lone.ro_q (by rfl) (v := ?_) ?_ ?_; rotate_left; (focus (intro w' hSw; (try dsimp only at hSw); go_simp; try with_reducible rfl)); simp only [Act.put, List.setIfInBounds_toArray, List.set_cons_zero, List.set_cons_succ]) | (refine Lone.ro_skip (by rfl) ?_; simp only [Act.put, List.setIfInBounds_toArray, List.set_cons_zero, List.set_cons_succ]))
        (refine Lone.ro_nil ?_; go_wp2_with fail)
        go_ret
        exact ⟨rfl, HB6.out⟩
  · have hkn : keyN key = sumF key := by unfold keyN; rw [if_neg hkl]
    have hF : sealF key b = sumF (padS 92 (sumF key) ++ sumF (padS 54 (sumF key) ++ b)) := by unfold sealF; rw [hkn]
    obtain ⟨kk, hkk⟩ : ∃ kk, kk = sumF key := ⟨_, rfl⟩
    rw [hF, ← hkk]
    have HKK := Lib.hid hkk
    clear hkn hF hkk
    have hkg : (64 : Int) < (key.size : Int) := by omega
    clear hkl
    go_enter Tryd.func17, Tryd.ntmps17
    go_wp2_with fail
    refine (sum_any key _ HT.out).mono ?_
    rintro e w1 ⟨rfl, hb1⟩
    have HB1 := Lib.hid hb1
    have hw1 := hb1.size
    clear hb1
    rw [← HKK.out]
    go_wp2_with fail
    have hS0 : SealW w ((w1.alloc (.cells (bvs (padL 54 kk 0)).toArray 81)).alloc (.cells (bvs (padL 92 kk 0)).toArray 81)) w1.heap.size (bvs (padL 54 kk 0)) (bvs (padL 92 kk 0)) :=
      ⟨by rw [Below.heap_alloc _ _ _ (by simp)]; exact heap_alloc_new _ _, by have := heap_alloc_new (w1.alloc (.cells (bvs (padL 54 kk 0)).toArray 81)) (.cells (bvs (padL 92 kk 0)).toArray 81); simpa using this, hw1, (HB1.out.alloc hw1 _).alloc (Nat.le_trans hw1 (by simp)) _⟩
    go_loopw [13] (fun v wr => ∃ k : Nat, k ≤ 64 ∧ v = .int .i64 k ∧ SealW w wr w1.heap.size (bvs (padL 54 kk k)) (bvs (padL 92 kk k))) (fun v _ => 64 - (intOf v).toNat)
    case atStart => exact ⟨0, by omega, rfl, hS0⟩
    case round =>
      clear hS0
      obtain ⟨k, hk, rfl, hS⟩ := hrel
      by_cases hlt : k < 64
      · have hkb : decide ((k : Int) < 64) = true := by simp; omega
        have hki : (k : Int) < 64 := by omega
        have c0 : wr.cell? ⟨w1.heap.size, k, none⟩ = some (.int .u8 (((padL 54 kk k).getD k 0).toNat : Int)) := by
          rw [row_cell hS.h0, bvs, List.getElem?_map, List.getD, List.getElem?_eq_getElem (by rw [padL_length]; exact hlt)]; rfl
        have c1 : wr.cell? ⟨w1.heap.size + 1, k, none⟩ = some (.int .u8 (((padL 92 kk k).getD k 0).toNat : Int)) := by
          rw [row_cell hS.h1, bvs, List.getElem?_map, List.getD, List.getElem?_eq_getElem (by rw [padL_length]; exact hlt)]; rfl
        have z0 := row_free hS.h0 k
        have z1 := row_free hS.h1 k
        have hS1 := (hS.set0 k (.int .u8 54)).set1 k (.int .u8 92)
        have HLT := Lib.hid hlt
        by_cases hkk : k < kk.size
        · have hkkb : decide ((k : Int) < (kk.size : Int)) = true := by simp; omega
          have hkki : (k : Int) < (kk.size : Int) := by omega
          clear hlt hS
          go_wp2_with fail
          generalize (wr.setCell ⟨w1.heap.size, k, none⟩ (.int .u8 54)).setCell ⟨w1.heap.size + 1, k, none⟩ (.int .u8 92) = w2 at *
          have hl5 : k < (bvs (padL 54 kk k)).length := by rw [bvs_length, padL_length]; omega
          have hl9 : k < (bvs (padL 92 kk k)).length := by rw [bvs_length, padL_length]; omega
          have d0 : w2.cell? ⟨w1.heap.size, k, none⟩ = some (.int .u8 54) := by rw [row_cell hS1.h0]; simp [hl5]
          have d1 : w2.cell? ⟨w1.heap.size + 1, k, none⟩ = some (.int .u8 92) := by rw [row_cell hS1.h1]; simp [hl9]
          have y0 := row_free hS1.h0 k
          have y1 := row_free hS1.h1 k
          have ki0 : (0 : Int) ≤ (k : Int) := by omega
          refine Lone.wp_region_order [(0, false), (1, false), (2, false), (3, false), (4, false), (5, false), (6, false), (7, false), (8, true)] (fun w' => w'.cell? ⟨w1.heap.size, k, none⟩ = some (.int .u8 54) ∧ w'.frozen? ⟨w1.heap.size, k, none⟩ = false) (by kernel_rfl) (by kernel_rfl) rfl (by kernel_rfl) (by intro _ _ d _ _ h; cases d <;> exact h) (⟨d0, y0⟩) ?_; simp only [List.map_cons, List.map_nil, List.getElem?_toArray, List.getElem?_cons_zero, List.getElem?_cons_succ, Option.getD_some]
          repeat (first | (refine Lone.ro_q (by rfl) (v := ?_) ?_ ?_; rotate_left; (focus (intro w' hSw; (try dsimp only at hSw); go_simp; try with_reducible rfl)); simp only [Act.put, List.setIfInBounds_toArray, List.set_cons_zero, List.set_cons_succ]) | (refine Lone.ro_skip (by rfl) ?_; simp only [Act.put, List.setIfInBounds_toArray, List.set_cons_zero, List.set_cons_succ]))
          (refine Lone.ro_loud (by rfl) (fun K hK => ?_); go_simp)
          (refine hK.out _ _ (fun _ => True) (.inr (by kernel_rfl)) (trivial) ?_; clear hK K; try simp only [Act.put, List.setIfInBounds_toArray, List.set_cons_zero, List.set_cons_succ])
          (refine Lone.ro_nil ?_; go_wp2_with fail)
          have hS2 := (hS1.set0 k (.int .u8 (bits .xor .u8 54 (kk[k].toNat : Int)))).drew
          rw [pad_in54 kk k hkk] at hS2
          generalize (w2.setCell ⟨w1.heap.size, k, none⟩ (.int .u8 (bits .xor .u8 54 (kk[k].toNat : Int)))).drew = w3 at *
          have x1 : w3.cell? ⟨w1.heap.size + 1, k, none⟩ = some (.int .u8 92) := by rw [row_cell hS2.h1]; simp [hl9]
          have v1 := row_free hS2.h1 k
          clear d0 d1 y0 y1 hS1 hl5 hl9
          refine Lone.wp_region_order [(0, false), (1, false), (2, false), (3, false), (4, false), (5, false), (6, false), (7, false), (8, true)] (fun w' => w'.cell? ⟨w1.heap.size + 1, k, none⟩ = some (.int .u8 92) ∧ w'.frozen? ⟨w1.heap.size + 1, k, none⟩ = false) (by kernel_rfl) (by kernel_rfl) rfl (by kernel_rfl) (by intro _ _ d _ _ h; cases d <;> exact h) (⟨x1, v1⟩) ?_; simp only [List.map_cons, List.map_nil, List.getElem?_toArray, List.getElem?_cons_zero, List.getElem?_cons_succ, Option.getD_some]
          repeat (first | (refine Lone.ro_q (by rfl) (v := ?_) ?_ ?_; rotate_left; (focus (intro w' hSw; (try dsimp only at hSw); go_simp; try with_reducible rfl)); simp only [Act.put, List.setIfInBounds_toArray, List.set_cons_zero, List.set_cons_succ]) | (refine Lone.ro_skip (by rfl) ?_; simp only [Act.put, List.setIfInBounds_toArray, List.set_cons_zero, List.set_cons_succ]))
          (refine Lone.ro_loud (by rfl) (fun K hK => ?_); go_simp)
          (refine hK.out _ _ (fun _ => True) (.inr (by kernel_rfl)) (trivial) ?_; clear hK K; try simp only [Act.put, List.setIfInBounds_toArray, List.set_cons_zero, List.set_cons_succ])
          (refine Lone.ro_nil ?_; go_wp2_with fail)
          have hS3 := (hS2.set1 k (.int .u8 (bits .xor .u8 92 (kk[k].toNat : Int)))).drew
          rw [pad_in92 kk k hkk] at hS3
          go_roundw
          case rel => exact ⟨k + 1, by have := HLT.out; omega, rfl, hS3⟩
          case measure =>
            have := HLT.out
            simp [intOf]; omega
        · have hkkb : decide ((k : Int) < (kk.size : Int)) = false := by simp; omega
          have hkki : (kk.size : Int) ≤ (k : Int) := by omega
          have hS3 := hS1
          rw [pad_out54 kk k hkk, pad_out92 kk k hkk] at hS3
          clear hlt hS hS1 hkk
          go_wp2_with fail
          go_roundw
          case rel => exact ⟨k + 1, by have := HLT.out; omega, rfl, hS3⟩
          case measure =>
            have := HLT.out
            simp [intOf]; omega
      · have h64 : k = 64 := by omega
        subst h64
        clear hk hlt
        have hkb : decide (((64 : Nat) : Int) < 64) = false := by decide
        have HP0 := Lib.hid (padS_size 54 kk)
        have HP1 := Lib.hid (padS_size 92 kk)
        have hz0 : (padS 54 kk).size ≤ 64 := by rw [padS_size]; exact Nat.le_refl _
        have hz1 : (padS 92 kk).size ≤ 64 := by rw [padS_size]; exact Nat.le_refl _
        have hz2 : (sumF (padS 54 kk ++ b)).size ≤ 32 := by rw [sumF_size]; exact Nat.le_refl _
        have hs1 : (padS 54 kk).size + b.size ≤ 9223372036854775807 := by omega
        have hs2 : (padS 92 kk).size + (sumF (padS 54 kk ++ b)).size ≤ 9223372036854775807 := by omega
        have HK0 := Lib.hid (fun (w' : World) (h : w'.heap[w1.heap.size]? = some (.cells (bvs (padL 54 kk 64)).toArray 81 (0, 0))) => run_bytes_string Tryd.underlying74 Tryd.underlying5 Tryd.underlying9 (rd_of_row h (padL_length 54 kk 64)))
        have HK1 := Lib.hid (fun (w' : World) (h : w'.heap[w1.heap.size + 1]? = some (.cells (bvs (padL 92 kk 64)).toArray 81 (0, 0))) => run_bytes_string Tryd.underlying74 Tryd.underlying5 Tryd.underlying9 (rd_of_row h (padL_length 92 kk 64)))
        have HSW := Lib.hid hS.drew
        have hh0 := hS.drew.h0
        have hh1 := hS.drew.h1
        clear hS
        go_wp2_with fail
        refine Lone.wp_region_order [(0, false), (1, false), (2, false), (3, false), (4, false), (5, false), (6, true), (7, false), (8, true), (9, false)] (fun w' => w'.heap[w1.heap.size]? = some (.cells (bvs (padL 54 kk 64)).toArray 81 (0, 0)) ∧ w'.heap[w1.heap.size + 1]? = some (.cells (bvs (padL 92 kk 64)).toArray 81 (0, 0))) (by kernel_rfl) (by kernel_rfl) rfl (by kernel_rfl) (by intro _ _ d _ _ h; cases d <;> exact h) (⟨hh0, hh1⟩) ?_; simp only [List.map_cons, List.map_nil, List.getElem?_toArray, List.getElem?_cons_zero, List.getElem?_cons_succ, Option.getD_some]
        repeat (first | (refine Lone.ro_q (by rfl) (v := ?_) ?_ ?_; rotate_left; (focus (intro w' hSw; (try dsimp only at hSw); go_simp; try with_reducible rfl)); simp only [Act.put, List.setIfInBounds_toArray, List.set_cons_zero, List.set_cons_succ]) | (refine Lone.ro_skip (by rfl) ?_; simp only [Act.put, List.setIfInBounds_toArray, List.set_cons_zero, List.set_cons_succ]))
        refine Lone.ro_q (by rfl) (v := .string (padS 92 kk)) ?_ ?_
        · intro w' hSw
          have hk := HK1.out w' hSw.2
          simp only [execOp, Act.eval, List.getElem?_toArray, List.getElem?_cons_zero, List.getElem?_cons_succ, Array.getD_eq_getD_getElem?, Option.getD_some, Sem.run_bind, hk, Result.andThen, Sem.run_pure]
          rfl
        simp only [Act.put, List.setIfInBounds_toArray, List.set_cons_zero, List.set_cons_succ]
        repeat (first | (refine Lone.ro_q (by rfl) (v := ?_) ?_ ?_; rotate_left; (focus (intro w' hSw; (try dsimp only at hSw); go_simp; try with_reducible rfl)); simp only [Act.put, List.setIfInBounds_toArray, List.set_cons_zero, List.set_cons_succ]) | (refine Lone.ro_skip (by rfl) ?_; simp only [Act.put, List.setIfInBounds_toArray, List.set_cons_zero, List.set_cons_succ]))
        refine Lone.ro_q (by rfl) (v := .string (padS 54 kk)) ?_ ?_
        · intro w' hSw
          have hk := HK0.out w' hSw.1
          simp only [execOp, Act.eval, List.getElem?_toArray, List.getElem?_cons_zero, List.getElem?_cons_succ, Array.getD_eq_getD_getElem?, Option.getD_some, Sem.run_bind, hk, Result.andThen, Sem.run_pure]
          rfl
        simp only [Act.put, List.setIfInBounds_toArray, List.set_cons_zero, List.set_cons_succ]
        repeat (first | (refine Lone.ro_q (by rfl) (v := ?_) ?_ ?_; rotate_left; (focus (intro w' hSw; (try dsimp only at hSw); go_simp; try with_reducible rfl)); simp only [Act.put, List.setIfInBounds_toArray, List.set_cons_zero, List.set_cons_succ]) | (refine Lone.ro_skip (by rfl) ?_; simp only [Act.put, List.setIfInBounds_toArray, List.set_cons_zero, List.set_cons_succ]))
        refine Lone.ro_q (by rfl) (v := .string (padS 54 kk ++ b)) ?_ ?_
        · intro w' hSw
          go_simp
        simp only [Act.put, List.setIfInBounds_toArray, List.set_cons_zero, List.set_cons_succ]
        (refine Lone.ro_loud (by rfl) (fun K hK => ?_); go_simp)
        refine (sum_any (padS 54 kk ++ b) _ (HT.out.below HSW.out.bel)).mono ?_
        rintro e w5 ⟨rfl, hb5⟩
        have j0 := blk_below hh0 hb5
        have j1 := blk_below hh1 hb5
        have HB5 := Lib.hid (HSW.out.bel.trans (hb5.mono HSW.out.bel.size))
        clear hb5
        (refine hK.out _ _ (fun w' => w'.heap[w1.heap.size]? = some (.cells (bvs (padL 54 kk 64)).toArray 81 (0, 0)) ∧ w'.heap[w1.heap.size + 1]? = some (.cells (bvs (padL 92 kk 64)).toArray 81 (0, 0))) (.inl fun _ h => h) (⟨j0, j1⟩) ?_; clear hK K; try simp only [Act.put, List.setIfInBounds_toArray, List.set_cons_zero, List.set_cons_succ])
        repeat (first | (refine Lone.ro_q (by rfl) (v := ?_) ?_ ?_; rotate_left; (focus (intro w' hSw; (try dsimp only at hSw); go_simp; try with_reducible rfl)); simp only [Act.put, List.setIfInBounds_toArray, List.set_cons_zero, List.set_cons_succ]) | (refine Lone.ro_skip (by rfl) ?_; simp only [Act.put, List.setIfInBounds_toArray, List.set_cons_zero, List.set_cons_succ]))
        refine Lone.ro_q (by rfl) (v := .string (padS 92 kk ++ sumF (padS 54 kk ++ b))) ?_ ?_
        · intro w' hSw
          go_simp
        simp only [Act.put, List.setIfInBounds_toArray, List.set_cons_zero, List.set_cons_succ]
        (refine Lone.ro_loud (by rfl) (fun K hK => ?_); go_simp)
        refine (sum_any (padS 92 kk ++ sumF (padS 54 kk ++ b)) _ (HT.out.below HB5.out)).mono ?_
        rintro e w6 ⟨rfl, hb6⟩
        have l0 := blk_below j0 hb6
        have l1 := blk_below j1 hb6
        have HB6 := Lib.hid (HB5.out.trans (hb6.mono HB5.out.size))
        clear hb6
        (refine hK.out _ _ (fun w' => w'.heap[w1.heap.size]? = some (.cells (bvs (padL 54 kk 64)).toArray 81 (0, 0)) ∧ w'.heap[w1.heap.size + 1]? = some (.cells (bvs (padL 92 kk 64)).toArray 81 (0, 0))) (.inl fun _ h => h) (⟨l0, l1⟩) ?_; clear hK K; try simp only [Act.put, List.setIfInBounds_toArray, List.set_cons_zero, List.set_cons_succ])
        repeat (first | (refine Lone.ro_q (by rfl) (v := ?_) ?_ ?_; rotate_left; (focus (intro w' hSw; (try dsimp only at hSw); go_simp; try with_reducible rfl)); simp only [Act.put, List.setIfInBounds_toArray, List.set_cons_zero, List.set_cons_succ]) | (refine Lone.ro_skip (by rfl) ?_; simp only [Act.put, List.setIfInBounds_toArray, List.set_cons_zero, List.set_cons_succ]))
        (refine Lone.ro_nil ?_; go_wp2_with fail)
        go_ret
        exact ⟨rfl, HB6.out⟩

end Go.Proofs.YtinhjnbgblieeaaDoor
