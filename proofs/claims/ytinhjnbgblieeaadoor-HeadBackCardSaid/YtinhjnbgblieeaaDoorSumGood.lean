/- The walks of sum.Begin and sum.Good. -/
import Derived.Test.YtinhjnbgblieeaaDoorSumBlock
namespace Go.Proofs.YtinhjnbgblieeaaDoor
open Go.RowKit
set_option linter.unusedVariables false
set_option linter.unusedSimpArgs false

/-- A state of a sum at work. -/
structure St where
  heads : Hd
  rest : ByteArray
  many : Int
def stV (s : St) : Value := .agg #[.int .u32 s.heads.a, .int .u32 s.heads.b, .int .u32 s.heads.c, .int .u32 s.heads.d, .int .u32 s.heads.e, .int .u32 s.heads.f, .int .u32 s.heads.g, .int .u32 s.heads.h, .string s.rest, .int .i64 s.many]
def stCells (s : St) : List Value := [.int .u32 s.heads.a, .int .u32 s.heads.b, .int .u32 s.heads.c, .int .u32 s.heads.d, .int .u32 s.heads.e, .int .u32 s.heads.f, .int .u32 s.heads.g, .int .u32 s.heads.h, .string s.rest, .int .i64 s.many]
def start : St := ⟨⟨1779033703, 3144134277, 1013904242, 2773480762, 1359893119, 2600822924, 528734635, 1541459225⟩, ⟨#[]⟩, 0⟩
/-- What Good answers. -/
def goodB (s : St) : Bool := decide (0 ≤ s.many) && (decide (s.many < 1152921504606846976) && decide ((s.rest.size : Int) = s.many % 64))

set_option maxRecDepth 100000 in
set_option maxHeartbeats 400000 in
theorem good_any (s : St) (w : World) :
    Calls Tryd.prog 71 #[stV s] w fun e w' => e = .returned (.bool (goodB s)) ∧ Below w.heap.size w w' := by
  simp only [stV]
  by_cases h0 : 0 ≤ s.many
  · by_cases h1 : s.many < 1152921504606846976
    · have hm : s.many.tmod 64 = s.many % 64 := Int.tmod_eq_emod_of_nonneg h0
      have hg : goodB s = decide ((s.rest.size : Int) = s.many % 64) := by simp [goodB, h0, h1]
      rw [hg]
      clear hg
      go_enter Tryd.func71, Tryd.ntmps71
      go_wp2_with fail
      go_ret
      exact ⟨by rw [Bool.beq_eq_decide_eq]; rfl, (Below.refl _ _).alloc (Nat.le_refl _) _⟩
    · have hg : goodB s = false := by simp [goodB, h1]
      rw [hg]
      clear hg
      go_enter Tryd.func71, Tryd.ntmps71
      go_wp2_with fail
      go_ret
      exact ⟨rfl, (Below.refl _ _).alloc (Nat.le_refl _) _⟩
  · have hg : goodB s = false := by simp [goodB, h0]
    rw [hg]
    clear hg
    go_enter Tryd.func71, Tryd.ntmps71
    go_wp2_with fail
    go_ret
    exact ⟨rfl, (Below.refl _ _).alloc (Nat.le_refl _) _⟩
set_option maxRecDepth 100000 in
set_option maxHeartbeats 400000 in
theorem begin_any (w : World) :
    Calls Tryd.prog 56 #[] w fun e w' => e = .returned (stV start) ∧ Below w.heap.size w w' := by
  go_enter Tryd.func56, Tryd.ntmps56
  go_wp2_with fail
  refine bodyPost_ret (v := stV start) (by simp [results, Tryd.f56, go_sem, stV, start]) rfl ?_
  exact ⟨rfl, (Below.refl _ _).alloc (Nat.le_refl _) _⟩
end Go.Proofs.YtinhjnbgblieeaaDoor
