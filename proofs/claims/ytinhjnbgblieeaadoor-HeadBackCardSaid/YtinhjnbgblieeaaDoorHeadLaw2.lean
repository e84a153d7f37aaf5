/- Heads of steps in plain Lean: Leaves and Of. -/
import Derived.Test.YtinhjnbgblieeaaDoorStepEnc
import Derived.Test.YtinhjnbgblieeaaDoorHeadLaw
import Derived.Test.YtinhjnbgblieeaaDoorMerkleLaw
namespace Go.Proofs.YtinhjnbgblieeaaDoor
set_option linter.unusedVariables false
set_option linter.unusedSimpArgs false

def encB (s : Stp) : ByteArray := ⟨(encS s).toArray⟩
def leavesG : List Stp → List ByteArray → List ByteArray × Int
  | [], acc => (acc, 0)
  | s :: r, acc => if goodS s ≠ 0 then ([], goodS s) else leavesG r (acc ++ [encB s])
def leavesF (l : List Stp) : List ByteArray × Int := leavesG l []
def ofF (l : List Stp) : (Int × ByteArray) × Int :=
  if 200 < l.length then ((0, noB), 6) else if (leavesF l).2 ≠ 0 then ((0, noB), (leavesF l).2) else ((l.length, rootF (leavesF l).1), 0)
theorem leavesG_ok : ∀ (l : List Stp) (acc : List ByteArray), (leavesG l acc).2 = 0 → (∀ s ∈ l, goodS s = 0) ∧ leavesG l acc = (acc ++ l.map encB, 0)
  | [], acc, _ => ⟨(fun _ h => by cases h), (by simp [leavesG])⟩
  | s :: r, acc, h => by
    unfold leavesG at h ⊢
    by_cases g : goodS s ≠ 0
    · rw [if_pos g] at h; exact absurd h g
    · rw [if_neg g] at h ⊢
      obtain ⟨h1, h2⟩ := leavesG_ok r _ h
      refine ⟨fun t ht => ?_, by rw [h2]; simp⟩
      rcases List.mem_cons.1 ht with rfl | ht
      · simpa using g
      · exact h1 t ht
theorem leavesG_of : ∀ (l : List Stp) (acc : List ByteArray), (∀ s ∈ l, goodS s = 0) → leavesG l acc = (acc ++ l.map encB, 0)
  | [], acc, _ => by simp [leavesG]
  | s :: r, acc, h => by
    unfold leavesG
    rw [if_neg (by have := h s (by simp); simpa using this), leavesG_of r _ (fun t ht => h t (by simp [ht]))]
    simp
theorem leavesG_bad : ∀ (l : List Stp) (acc : List ByteArray), (leavesG l acc).2 ≠ 0 → (leavesG l acc).1 = []
  | [], acc, h => absurd rfl h
  | s :: r, acc, h => by
    unfold leavesG at h ⊢
    by_cases g : goodS s ≠ 0
    · rw [if_pos g]
    · rw [if_neg g] at h ⊢
      exact leavesG_bad r _ h
theorem leavesF_ok {l : List Stp} (h : (leavesF l).2 = 0) : (∀ s ∈ l, goodS s = 0) ∧ leavesF l = (l.map encB, 0) := by
  obtain ⟨h1, h2⟩ := leavesG_ok l [] h
  exact ⟨h1, by unfold leavesF; rw [h2]; simp⟩
theorem leavesF_of {l : List Stp} (h : ∀ s ∈ l, goodS s = 0) : leavesF l = (l.map encB, 0) := by
  unfold leavesF; rw [leavesG_of l [] h]; simp
theorem ofF_ok {l : List Stp} (h : (ofF l).2 = 0) : l.length ≤ 200 ∧ (∀ s ∈ l, goodS s = 0) ∧ ofF l = (((l.length : Int), rootF (l.map encB)), 0) := by
  unfold ofF at h ⊢
  by_cases c : 200 < l.length
  · rw [if_pos c] at h; exact absurd h (by decide)
  · rw [if_neg c] at h ⊢
    by_cases g : (leavesF l).2 ≠ 0
    · rw [if_pos g] at h; exact absurd h g
    · rw [if_neg g]
      obtain ⟨h1, h2⟩ := leavesF_ok (l := l) (by simpa using g)
      exact ⟨by omega, h1, by rw [h2]⟩
theorem ofF_of {l : List Stp} (h : l.length ≤ 200) (h1 : ∀ s ∈ l, goodS s = 0) : ofF l = (((l.length : Int), rootF (l.map encB)), 0) := by
  unfold ofF
  rw [if_neg (by omega), leavesF_of h1, if_neg (by simp)]
theorem ofF_bad {l : List Stp} (h : (ofF l).2 ≠ 0) : (ofF l).1 = (0, noB) := by
  unfold ofF at h ⊢
  by_cases c : 200 < l.length
  · rw [if_pos c]
  · rw [if_neg c] at h ⊢
    by_cases g : (leavesF l).2 ≠ 0
    · rw [if_pos g]
    · rw [if_neg g] at h; exact absurd rfl h
end Go.Proofs.YtinhjnbgblieeaaDoor
