/- Objects that are put one after the other, in plain Lean. -/
import Derived.Test.YtalkheljejkpiaaDoorStoreLaw2
namespace Go.Proofs.YtalkheljejkpiaaDoor
set_option linter.unusedVariables false
set_option linter.unusedSimpArgs false

noncomputable def puts1 (q : Dsk × List ByteArray) (s : ByteArray) : Dsk × List ByteArray := if (putF q.1 s).2.2 = 0 then ((putF q.1 s).1, q.2 ++ [(putF q.1 s).2.1]) else q
noncomputable def putsF (l : List ByteArray) : Dsk × List ByteArray := l.foldl puts1 (⟨[], -1⟩, [])
theorem putsF_nil : putsF [] = (⟨[], -1⟩, []) := rfl
theorem putsF_snoc (l : List ByteArray) (s : ByteArray) : putsF (l ++ [s]) = puts1 (putsF l) s := by simp [putsF]
theorem puts1_ok {d : Dsk} {ids : List ByteArray} {s i : ByteArray} {q : Dsk} (h : putF d s = (q, i, 0)) : puts1 (d, ids) s = (q, ids ++ [i]) := by unfold puts1; dsimp only; rw [h, if_pos rfl]
theorem puts1_no {d : Dsk} {ids : List ByteArray} {s : ByteArray} (h : (putF d s).2.2 ≠ 0) : puts1 (d, ids) s = (d, ids) := by unfold puts1; dsimp only; rw [if_neg h]
theorem puts_rec {P : Dsk → List ByteArray → Prop} (h0 : P ⟨[], -1⟩ []) (hs : ∀ d ids s q i, P d ids → putF d s = (q, i, 0) → P q (ids ++ [i])) (l : List ByteArray) : P (putsF l).1 (putsF l).2 := by
  have key : ∀ (m : List ByteArray) (q : Dsk × List ByteArray), P q.1 q.2 → P (m.foldl puts1 q).1 (m.foldl puts1 q).2 := by
    intro m
    induction m with
    | nil => intro q h; exact h
    | cons s m ih =>
      intro q h
      refine ih _ ?_
      by_cases hz : (putF q.1 s).2.2 = 0
      · have e : putF q.1 s = ((putF q.1 s).1, (putF q.1 s).2.1, 0) := Prod.ext rfl (Prod.ext rfl hz)
        have := hs q.1 q.2 s _ _ h e
        unfold puts1; rw [if_pos hz]; exact this
      · unfold puts1; rw [if_neg hz]; exact h
  exact key l _ h0
theorem puts_law (l : List ByteArray) : (putsF l).1.fuse = -1 ∧ ∀ x ∈ (putsF l).2, x.size = 32 := by
  refine puts_rec (P := fun d ids => d.fuse = -1 ∧ ∀ x ∈ ids, x.size = 32) ⟨rfl, fun x hx => (by cases hx)⟩ (fun d ids s q i h hp => ?_) l
  have hf := (put_fz d s).low (by rw [h.1]; decide)
  rw [hp] at hf
  refine ⟨hf.trans h.1, fun x hx => ?_⟩
  rcases List.mem_append.1 hx with hx | hx
  · exact h.2 x hx
  · rw [List.mem_singleton.1 hx, (putF_ok hp).1]; exact sumF_size s
theorem puts1_len (q : Dsk × List ByteArray) (s : ByteArray) : (puts1 q s).2.length ≤ q.2.length + 1 := by
  unfold puts1
  split
  · simp
  · omega
theorem puts_len (l : List ByteArray) : (putsF l).2.length ≤ l.length := by
  have key : ∀ (m : List ByteArray) (q : Dsk × List ByteArray), (m.foldl puts1 q).2.length ≤ q.2.length + m.length := by
    intro m
    induction m with
    | nil => intro q; simp
    | cons s m ih =>
      intro q
      have h1 := ih (puts1 q s)
      have h2 := puts1_len q s
      simp only [List.foldl_cons, List.length_cons]; omega
  have := key l (⟨[], -1⟩, [])
  rwa [show (([] : List ByteArray).length + l.length) = l.length from Nat.zero_add _] at this
theorem puts_fuse {l ids : List ByteArray} {dl : List Fil} {f : Int} (h : putsF l = (⟨dl, f⟩, ids)) : f = -1 := by
  have := (puts_law l).1; rw [h] at this; exact this
end Go.Proofs.YtalkheljejkpiaaDoor
