/- The walks of sum.End on a bad state and of sum.Sum. -/
import Derived.Test.YtinhjnbgblieeaaDoorSumEnd
namespace Go.Proofs.YtinhjnbgblieeaaDoor
open Go.RowKit
set_option linter.unusedVariables false
set_option linter.unusedSimpArgs false

set_option maxRecDepth 100000 in
set_option maxHeartbeats 1600000 in
theorem end_bad (s : St) (w : World) (hg : goodB s = false) :
    Calls Tryd.prog 57 #[stV s] w fun e w' => e = .returned (.tuple #[.string ⟨#[]⟩, .int .i64 3]) ∧ Below w.heap.size w w' := by
  have HG := good_any s
  simp only [stV] at HG
  rw [hg] at HG
  clear hg
  show Calls _ _ #[.agg #[.int .u32 s.heads.a, .int .u32 s.heads.b, .int .u32 s.heads.c, .int .u32 s.heads.d, .int .u32 s.heads.e, .int .u32 s.heads.f, .int .u32 s.heads.g, .int .u32 s.heads.h, .string s.rest, .int .i64 s.many]] w _
  go_enter Tryd.func57, Tryd.ntmps57
  go_wp2_with fail
  refine (HG _).mono ?_
  rintro e w1 ⟨rfl, hb1⟩
  go_wp2_with fail
  go_ret2
  exact ⟨rfl, ((Below.refl _ w).alloc (Nat.le_refl _) _).trans (hb1.mono (by simp))⟩

/-- What tells that the table lies where it lay at the start. -/
def Tab (w : World) : Prop := ∀ i, i < 64 → w.cell? ⟨0, i, none⟩ = some (.int .u32 (shaK.getD i 0))
theorem Tab.pos {w : World} (h : Tab w) : 0 < w.heap.size := by have := World.block_lt_of_cell? w _ (h 0 (by omega)); exact this
theorem Tab.below {w w' : World} (h : Tab w) (hb : Below w.heap.size w w') : Tab w' := fun i hi => by rw [hb.cell (p := ⟨0, i, none⟩) h.pos]; exact h i hi
theorem start_ok : start.heads.ok := by unfold start Hd.ok isU; simp
theorem noSt_ok : noSt.heads.ok := by unfold noSt Hd.ok isU; simp
theorem good_start : goodB start = true := by rfl
theorem good_noSt : goodB noSt = true := by rfl
theorem addF_ok {s : St} {b : ByteArray} (h : s.heads.ok) : (addF s b).heads.ok := blkN_ok _ _ h _
theorem good_add {s : St} {b : ByteArray} (h : addOk s b = true) : goodB (addF s b) = true := by
  simp only [addOk, goodB, Bool.and_eq_true, decide_eq_true_eq] at h
  obtain ⟨⟨h0, h1, h2⟩, h3, h4⟩ := h
  have hx : (s.rest ++ b).size = s.rest.size + b.size := ByteArray.size_append
  have hr : (addF s b).rest.size = (s.rest ++ b).size - 64 * ((s.rest ++ b).size / 64) := by
    show ((s.rest ++ b).extract (64 * ((s.rest ++ b).size / 64)) (s.rest ++ b).size).size = _
    rw [extract_size' _ _ (by omega)]
  simp only [goodB, Bool.and_eq_true, decide_eq_true_eq, hr]
  show 0 ≤ s.many + b.size ∧ s.many + b.size < 1152921504606846976 ∧ _ = (s.many + b.size) % 64
  refine ⟨by omega, by omega, ?_⟩
  omega
def addR (s : St) (b : ByteArray) : St := if addOk s b then addF s b else noSt
theorem addR_good (s : St) (b : ByteArray) : goodB (addR s b) = true := by
  unfold addR; split
  · rename_i h; exact good_add h
  · rfl
theorem addR_ok {s : St} {b : ByteArray} (h : s.heads.ok) : (addR s b).heads.ok := by
  unfold addR; split
  · exact addF_ok h
  · exact noSt_ok
/-- What Sum answers. -/
def sumF (b : ByteArray) : ByteArray := endF (addR start b)
theorem outB_len8 (x : Hd) : (outB x 8).length = 32 := outB_length x 8
theorem endF_size (s : St) : (endF s).size = 32 := by
  show (outB _ 8).length = 32
  exact outB_length _ 8
def addE (s : St) (b : ByteArray) : Int := if addOk s b then 0 else 3
theorem add_all (s : St) (b : ByteArray) (w : World) (hok : s.heads.ok) (ht : Tab w) :
    Calls Tryd.prog 55 #[stV s, .string b] w fun e w' => e = .returned (.tuple #[stV (addR s b), .int .i64 (addE s b)]) ∧ Below w.heap.size w w' := by
  have h := add_any s b w hok ht
  unfold addR addE
  split <;> rename_i hb <;> simpa [hb] using h

set_option maxRecDepth 100000 in
set_option maxHeartbeats 1600000 in
theorem sum_any (b : ByteArray) (w : World) (ht : Tab w) :
    Calls Tryd.prog 37 #[.string b] w fun e w' => e = .returned (.string (sumF b)) ∧ Below w.heap.size w w' := by
  have HT := Lib.hid ht
  clear ht
  go_enter Tryd.func37, Tryd.ntmps37
  go_wp2_with fail
  refine (begin_any _).mono ?_
  rintro e w1 ⟨rfl, hb1⟩
  go_wp2_with fail
  refine (add_all start b _ start_ok (HT.out.below hb1)).mono ?_
  rintro e w2 ⟨rfl, hb2⟩
  have HR := Lib.hid (show goodB (addR start b) = true ∧ (addR start b).heads.ok ∧ sumF b = endF (addR start b) from ⟨addR_good _ _, addR_ok start_ok, rfl⟩)
  have HT2 := Lib.hid ((HT.out.below hb1).below hb2)
  have HBB := Lib.hid (hb1.trans (hb2.mono hb1.size))
  clear hb1 hb2
  generalize addR start b = r at *
  simp only [stV]
  go_wp2_with fail
  refine (end_any r _ HR.out.1 HR.out.2.1 (HT2.out.below ((Below.refl _ _).alloc (Nat.le_refl _) _))).mono ?_
  rintro e w3 ⟨rfl, hb3⟩
  go_wp2_with fail
  go_ret
  exact ⟨by rw [HR.out.2.2]; rfl, HBB.out.trans (((Below.refl _ w2).alloc (Nat.le_refl _) _).trans (hb3.mono (by simp)) |>.mono HBB.out.size)⟩
end Go.Proofs.YtinhjnbgblieeaaDoor
