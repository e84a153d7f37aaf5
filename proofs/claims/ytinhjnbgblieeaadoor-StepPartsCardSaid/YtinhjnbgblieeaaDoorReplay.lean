/- Replays in plain Lean, and their law. -/
import Derived.Test.YtinhjnbgblieeaaDoorStA
import Derived.Test.YtinhjnbgblieeaaDoorRef
namespace Go.Proofs.YtinhjnbgblieeaaDoor
set_option linter.unusedVariables false
set_option linter.unusedSimpArgs false

section
variable (sl : ByteArray → ByteArray → ByteArray) (sg : List ByteArray) (need : Int)
/-- What refs come to by steps from place k on, where it goes wrong, and how. -/
noncomputable def replayG : List Stp → Nat → List Rf → (List Rf × Nat) × Int
  | [], _, acc => ((acc, 0), 0)
  | s :: r, k, acc => if checkF sl sg need (k : Int) s ≠ 0 then (([], k), checkF sl sg need (k : Int) s) else
      if (setR namedR acc s.ref s.old s.new).2 ≠ 0 then (([], k), (setR namedR acc s.ref s.old s.new).2) else replayG r (k + 1) (setR namedR acc s.ref s.old s.new).1
noncomputable def replayF (l : List Stp) : (List Rf × Nat) × Int := if 200 < l.length then (([], 0), 6) else replayG sl sg need l 0 []
theorem replayG_1 {s : Stp} {r : List Stp} {k : Nat} {acc : List Rf} (h : checkF sl sg need (k : Int) s ≠ 0) : replayG sl sg need (s :: r) k acc = (([], k), checkF sl sg need (k : Int) s) := by rw [replayG, if_pos h]
theorem replayG_2 {s : Stp} {r : List Stp} {k : Nat} {acc : List Rf} (h : checkF sl sg need (k : Int) s = 0) (h2 : (setR namedR acc s.ref s.old s.new).2 ≠ 0) : replayG sl sg need (s :: r) k acc = (([], k), (setR namedR acc s.ref s.old s.new).2) := by
  rw [replayG, if_neg (fun k => k h), if_pos h2]
theorem replayG_3 {s : Stp} {r : List Stp} {k : Nat} {acc : List Rf} (h : checkF sl sg need (k : Int) s = 0) (h2 : (setR namedR acc s.ref s.old s.new).2 = 0) : replayG sl sg need (s :: r) k acc = replayG sl sg need r (k + 1) (setR namedR acc s.ref s.old s.new).1 := by
  rw [replayG, if_neg (fun k => k h), if_neg (fun k => k h2)]
theorem replay_good : ∀ (l : List Stp) (k n : Nat) (acc : List Rf), (replayG sl sg need l k acc).2 = 0 → (replayG sl sg need (l.take n) k acc).2 = 0 ∧ (replayG sl sg need (l.take n) k acc).1.2 = 0
  | [], k, n, acc, h => by simp [replayG]
  | s :: r, k, n, acc, h => by
    cases n with
    | zero => simp [replayG]
    | succ n =>
      rw [List.take_succ_cons]
      by_cases c : checkF sl sg need (k : Int) s = 0
      · by_cases d : (setR namedR acc s.ref s.old s.new).2 = 0
        · rw [replayG_3 sl sg need c d] at h ⊢
          exact replay_good r (k + 1) n _ h
        · rw [replayG_2 sl sg need c d] at h; exact absurd h d
      · rw [replayG_1 sl sg need c] at h; exact absurd h c
theorem replay_bad : ∀ (l : List Stp) (k : Nat) (acc : List Rf), (replayG sl sg need l k acc).2 ≠ 0 → (replayG sl sg need l k acc).1.1 = [] ∧ k ≤ (replayG sl sg need l k acc).1.2 ∧
      (∀ n, k + n ≤ (replayG sl sg need l k acc).1.2 → (replayG sl sg need (l.take n) k acc).2 = 0) ∧ (∀ n, (replayG sl sg need l k acc).1.2 < k + n → replayG sl sg need (l.take n) k acc = replayG sl sg need l k acc)
  | [], k, acc, h => absurd rfl h
  | s :: r, k, acc, h => by
    by_cases c : checkF sl sg need (k : Int) s = 0
    · by_cases d : (setR namedR acc s.ref s.old s.new).2 = 0
      · have e := replayG_3 sl sg need (r := r) c d
        rw [e] at h ⊢
        obtain ⟨h1, h2, h3, h4⟩ := replay_bad r (k + 1) _ h
        refine ⟨h1, by omega, fun n hn => ?_, fun n hn => ?_⟩
        · cases n with
          | zero => simp [replayG]
          | succ n => rw [List.take_succ_cons, replayG_3 sl sg need c d]; exact h3 n (by omega)
        · cases n with
          | zero => omega
          | succ n => rw [List.take_succ_cons, replayG_3 sl sg need c d]; exact h4 n (by omega)
      · have e := replayG_2 sl sg need (r := r) c d
        rw [e]
        refine ⟨rfl, Nat.le_refl _, fun n hn => ?_, fun n hn => ?_⟩
        · have : n = 0 := by have : k + n ≤ k := hn; omega
          subst this; simp [replayG]
        · cases n with
          | zero => have : k < k + 0 := hn; omega
          | succ n => rw [List.take_succ_cons, replayG_2 sl sg need c d]
    · have e := replayG_1 sl sg need (r := r) (acc := acc) c
      rw [e]
      refine ⟨rfl, Nat.le_refl _, fun n hn => ?_, fun n hn => ?_⟩
      · have : n = 0 := by have : k + n ≤ k := hn; omega
        subst this; simp [replayG]
      · cases n with
        | zero => have : k < k + 0 := hn; omega
        | succ n => rw [List.take_succ_cons, replayG_1 sl sg need c]
theorem replayF_1 {l : List Stp} (h : 200 < l.length) : replayF sl sg need l = (([], 0), 6) := by unfold replayF; rw [if_pos h]
theorem replayF_2 {l : List Stp} (h : ¬ 200 < l.length) : replayF sl sg need l = replayG sl sg need l 0 [] := by unfold replayF; rw [if_neg h]
theorem replay_law {l : List Stp} {n : Nat} (hn : n ≤ l.length) (hl : ¬ 200 < l.length) :
    ((replayF sl sg need l).2 = 0 → (replayF sl sg need l).1.2 = 0 ∧ (replayF sl sg need (l.take n)).2 = 0 ∧ (replayF sl sg need (l.take n)).1.2 = 0) ∧
    ((replayF sl sg need l).2 ≠ 0 → (replayF sl sg need l).1.1 = [] ∧ (n ≤ (replayF sl sg need l).1.2 → (replayF sl sg need (l.take n)).2 = 0) ∧ (¬ n ≤ (replayF sl sg need l).1.2 → replayF sl sg need (l.take n) = replayF sl sg need l)) := by
  have ht : ¬ 200 < (l.take n).length := by rw [List.length_take]; omega
  rw [replayF_2 sl sg need hl, replayF_2 sl sg need ht]
  refine ⟨fun h => ?_, fun h => ?_⟩
  · have h1 := replay_good sl sg need l 0 l.length [] h
    rw [List.take_length] at h1
    exact ⟨h1.2, replay_good sl sg need l 0 n [] h⟩
  · obtain ⟨h1, _, h3, h4⟩ := replay_bad sl sg need l 0 [] h
    exact ⟨h1, fun k => h3 n (by omega), fun k => h4 n (by omega)⟩
end
end Go.Proofs.YtinhjnbgblieeaaDoor
