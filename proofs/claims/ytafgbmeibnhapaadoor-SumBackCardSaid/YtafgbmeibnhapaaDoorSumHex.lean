/- The walk of sum.Hex. -/
import Derived.Test.YtafgbmeibnhapaaDoorSumSum
namespace Go.Proofs.YtafgbmeibnhapaaDoor
open Go.RowKit
set_option linter.unusedVariables false
set_option linter.unusedSimpArgs false

def ds : ByteArray := ⟨#[48, 49, 50, 51, 52, 53, 54, 55, 56, 57, 97, 98, 99, 100, 101, 102]⟩
def dg (n : Nat) : UInt8 := ds.data.toList.getD n 0
theorem run_dig (w : World) (n : Nat) (h : n < 16) : (Instr.index 9 (.string ⟨#[48, 49, 50, 51, 52, 53, 54, 55, 56, 57, 97, 98, 99, 100, 101, 102]⟩) (.int .u8 (n : Int))).run Tryd.prog w = .ok (.int .u8 ((dg n).toNat : Int)) w := by
  have hn : (n : Int) < 16 := by omega
  have h0 : (0 : Int) ≤ (n : Int) := by omega
  have hd : (ds[n]'h).toNat = (dg n).toNat := by
    have : dg n = ds[n]'h := by
      show ds.data.toList.getD n 0 = _
      rw [List.getD, List.getElem?_eq_getElem (by exact h)]; rfl
    rw [this]
  have e : (⟨#[48, 49, 50, 51, 52, 53, 54, 55, 56, 57, 97, 98, 99, 100, 101, 102]⟩ : ByteArray) = ds := rfl
  have hsz : ds.size = 16 := rfl
  have hl : (n : Int) < (ds.size : Int) := by rw [hsz]; omega
  have hln : n < ds.size := h
  rw [e]
  simp [Instr.index, run_underlying Tryd.underlying9, asIntOf, hl, hln, h0, go_sem]
  exact congrArg (fun x : Nat => (x : Int)) hd
/-- The digits of bytes. -/
def hexL (l : List UInt8) : List UInt8 := l.flatMap fun c => [dg (c.toNat / 16), dg (c.toNat % 16)]

def hexF (b : ByteArray) : ByteArray := ⟨(hexL b.data.toList).toArray⟩
theorem hexL_step (l : List UInt8) (k : Nat) (h : k < l.length) : hexL (l.take (k + 1)) = hexL (l.take k) ++ [dg ((l.getD k 0).toNat / 16), dg ((l.getD k 0).toNat % 16)] := by
  rw [List.take_add_one, List.getElem?_eq_getElem h, List.getD, List.getElem?_eq_getElem h]
  show List.flatMap _ (l.take k ++ [l[k]]) = _
  rw [List.flatMap_append]
  rfl

set_option maxRecDepth 100000 in
set_option maxHeartbeats 1600000 in
theorem hex_any (b : ByteArray) (w : World) (hb : b.size ≤ 140737488355328) :
    Calls Tryd.prog 14 #[.string b] w fun e w' => e = .returned (.string (hexF b)) ∧ Below w.heap.size w w' := by
  have kc := fun (w : World) (x : ByteArray) => run_bytes_of_string (P := Tryd.prog) w 9 41 5 x Tryd.underlying9 Tryd.underlying41 Tryd.underlying5
  have hw2 : IntKind.i64.wrap (2 * (b.size : Int)) = ((2 * b.size : Nat) : Int) := by rw [IntWalk.i64_in _ (by omega)]; omega
  obtain ⟨i, hi, hz, hsize, hbt⟩ := info_parts info_u8
  obtain ⟨wm, hmr, hmo, hmg⟩ := run_make_own (P := Tryd.prog) w w.heap.size 41 5 i (.int .u8 0) 1 Tryd.underlying41 hi hz hsize .i64 .i64 (2 * b.size) (by rw [hbt]; omega) (by unfold maxLen; omega) (Nat.le_refl _)
  have hmB : Below w.heap.size w wm := ⟨hmg.os, hmg.tape, hmg.output, hmg.size, fun k hk => hmg.block k hk (by simp)⟩
  rw [Int.natCast_mul] at hmr
  have hmr' : (Instr.makeSlice 41 (.int .i64 0) (.int .i64 (2 * (b.size : Int)))).run Tryd.prog w = .ok (.slice (some ⟨w.heap.size, 0, none⟩) 0 (2 * b.size)) wm := hmr
  clear hmr hi hz hsize hbt hmg
  go_enter Tryd.func14, Tryd.ntmps14
  go_wp2_with fail
  obtain ⟨cap, hcap⟩ : ∃ cap, cap = grownCap wm b.size 0 5 := ⟨_, rfl⟩
  rw [← hcap]
  have hrow : ((wm.alloc (.cells (bytesRow b cap) 5 ((bytesRow b cap).size, (bytesRow b cap).size + 1))).drew).heap[wm.heap.size]? = some (.cells (bytesRow b cap) 5 ((bytesRow b cap).size, (bytesRow b cap).size + 1)) := heap_alloc_new _ _
  have hbel : Below w.heap.size w ((wm.alloc (.cells (bytesRow b cap) 5 ((bytesRow b cap).size, (bytesRow b cap).size + 1))).drew) := (hmB.alloc hmB.size _).drew
  have hown0 : ((wm.alloc (.cells (bytesRow b cap) 5 ((bytesRow b cap).size, (bytesRow b cap).size + 1))).drew).ownsRow w.heap.size 5 1 (.slice (some ⟨w.heap.size, 0, none⟩) 0 (2 * b.size)) 0 [] := hmo.alloc _
  clear hmr' hmo hcap kc
  have HRK : Hid (∀ k, k < b.size → (bytesRow b cap)[k]? = some (.int .u8 ((b.data.toList.getD k 0).toNat : Int))) := Lib.hid (fun k hk => by
    have h := bytesRow_at b cap k hk
    rw [h]
    congr 2
    exact byteI_eq b k hk)
  generalize bytesRow b cap = row at *
  go_loopw [3, 13] (fun v i wr => ∃ k : Nat, k ≤ b.size ∧ i = .int .i64 k ∧ v = .slice (some ⟨w.heap.size, 0, none⟩) (2 * k) (2 * b.size) ∧ wr.ownsRow w.heap.size 5 1 v (2 * k) (bvs (hexL (b.data.toList.take k))) ∧ wr.heap[wm.heap.size]? = some (.cells row 5 (row.size, row.size + 1)) ∧ Below w.heap.size w wr) (fun _ i _ => b.size - (intOf i).toNat)
  case atStart => exact ⟨0, by omega, rfl, rfl, hown0, hrow, hbel⟩
  case round =>
    clear hown0 hrow hbel
    obtain ⟨k, hk, rfl, rfl, hown, hrow, hB⟩ := hrel
    by_cases hlt : k < b.size
    · obtain ⟨c, hc⟩ : ∃ c, c = b.data.toList.getD k 0 := ⟨_, rfl⟩
      have hck : wr.cell? ⟨wm.heap.size, k, none⟩ = some (.int .u8 (c.toNat : Int)) := by
        rw [cell_of_row wr _ k row 5 _ hrow, HRK.out k hlt, hc]
      have hcr := UInt8.toNat_lt c
      obtain ⟨x, hx⟩ : ∃ x, x = c.toNat := ⟨_, rfl⟩
      rw [← hx] at hck hcr
      have d1 : ∀ w : World, (Instr.index 9 (.string ⟨#[48, 49, 50, 51, 52, 53, 54, 55, 56, 57, 97, 98, 99, 100, 101, 102]⟩) (.int .u8 ((x : Int) / 16))).run Tryd.prog w = .ok (.int .u8 ((dg (x / 16)).toNat : Int)) w := fun w => run_dig w (x / 16) (by omega)
      have d2 : ∀ w : World, (Instr.index 9 (.string ⟨#[48, 49, 50, 51, 52, 53, 54, 55, 56, 57, 97, 98, 99, 100, 101, 102]⟩) (.int .u8 ((x : Int) % 16))).run Tryd.prog w = .ok (.int .u8 ((dg (x % 16)).toNat : Int)) w := fun w => run_dig w (x % 16) (by omega)
      have ha : bits .and .u8 (x : Int) 15 = (x : Int) % 16 := u8_and15 (x : Int) (by omega) (by omega)
      have hkb : decide ((k : Int) < (b.size : Int)) = true := by simp; omega
      have hki : (k : Int) < (b.size : Int) := by omega
      have hsz := hB.size
      have HC := Lib.hid (show c = b.data.toList.getD k 0 ∧ x = c.toNat ∧ k < b.size from ⟨hc, hx, hlt⟩)
      clear hc hx hcr hlt hk
      go_wp2_with fail
      refine wp_region_order [(0, false), (1, false), (2, false), (3, false), (4, false), (5, false), (6, false), (7, true), (8, true), (9, false)] (fun w' => True) (by kernel_rfl) (by kernel_rfl) rfl (by kernel_rfl) (by intro _ _ d _ _ h; cases d <;> exact h) (trivial) ?_; simp only [List.map_cons, List.map_nil, List.getElem?_toArray, List.getElem?_cons_zero, List.getElem?_cons_succ, Option.getD_some]
      repeat (first | (refine ro_q (by rfl) (v := ?_) ?_ ?_; rotate_left; (focus (intro w' hSw; (try dsimp only at hSw); go_simp; try with_reducible rfl)); simp only [Act.put, List.setIfInBounds_toArray, List.set_cons_zero, List.set_cons_succ]) | (refine ro_skip (by rfl) ?_; simp only [Act.put, List.setIfInBounds_toArray, List.set_cons_zero, List.set_cons_succ]))
      (refine ro_loud (by rfl) (fun K hK => ?_); go_simp)
      (refine hK.out _ _ (fun w' => True) (fun _ h => h) (trivial) ?_; clear hK K; try simp only [Act.put, List.setIfInBounds_toArray, List.set_cons_zero, List.set_cons_succ])
      refine ro_loud (by rfl) (fun K hK => ?_)
      refine wp_appendNf (.tmp 17) (.tmp 24) 41 rfl info_u8 Tryd.underlying41 hown.drew hB.drew (Nat.le_refl _) hsz 2 rfl (by simp [Value.oneCell']) (by have := HC.out; omega) rfl rfl ?_
      intro w2 hown' hgr hB'
      (refine hK.out _ _ (fun w' => True) (fun _ h => h) (trivial) ?_; clear hK K; try simp only [Act.put, List.setIfInBounds_toArray, List.set_cons_zero, List.set_cons_succ])
      repeat (first | (refine ro_q (by rfl) (v := ?_) ?_ ?_; rotate_left; (focus (intro w' hSw; (try dsimp only at hSw); go_simp; try with_reducible rfl)); simp only [Act.put, List.setIfInBounds_toArray, List.set_cons_zero, List.set_cons_succ]) | (refine ro_skip (by rfl) ?_; simp only [Act.put, List.setIfInBounds_toArray, List.set_cons_zero, List.set_cons_succ]))
      (refine ro_nil ?_; go_wp2_with fail)
      go_roundw
      case rel =>
        have hC := HC.out
        refine ⟨k + 1, by omega, rfl, rfl, ?_, ?_, hB'⟩
        · rw [hexL_step _ k (by rw [toList_length]; exact hC.2.2), ← hC.1, ← hC.2.1, bvs_append]
          exact hown'
        · rw [hgr _ (lt_of_block hrow) (fun e => own_far hown hrow (by rw [e]; rfl))]
          exact hrow
      case measure =>
        have hC := HC.out
        simp [intOf]
        omega
    · have hkb : k = b.size := by omega
      subst hkb
      have hkb : decide ((b.size : Int) < (b.size : Int)) = false := by simp
      rw [← toList_length b, List.take_length, toList_length b] at hown
      have hR := rdRow_of_owns hown
      clear hlt hk
      go_wp2_with (first | (refine wpList_bytes_string rfl _ _ _ _ rfl Tryd.underlying41 Tryd.underlying5 Tryd.underlying9 (l := hexL b.data.toList) (n := 2 * b.size) hR rfl ?_))
      go_ret
      exact ⟨rfl, hB⟩
end Go.Proofs.YtafgbmeibnhapaaDoor
