/- Rows of the call's own: their form; a cell that is set. -/
import Derived.Test.YtnggcldpojebkaaDoorSlice
import Derived.Test.YtnggcldpojebkaaDoorRowk
namespace Go.Proofs.YtnggcldpojebkaaDoor
open Go.RowKit
set_option linter.unusedVariables false
set_option linter.unusedSimpArgs false

theorem set_parts {α : Type} : ∀ (l : List α) (k : Nat) (g : α), k < l.length → l.set k g = l.take k ++ g :: l.drop (k + 1)
  | [], k, g, h => by simp at h
  | x :: l, 0, g, _ => rfl
  | x :: l, k + 1, g, h => by
    have := set_parts l k g (by simpa using h)
    simp [this]
theorem own_set {w : World} {base : Nat} {e : TypeId} {size g n cap : Nat} {xs : List Value} (h : w.ownsRow base e size (.slice (some ⟨g, 0, none⟩) n cap) n xs) (i : Nat) (u : Value) : (w.setCell ⟨g, i, none⟩ u).ownsRow base e size (.slice (some ⟨g, 0, none⟩) n cap) n (xs.set i u) := by
  obtain ⟨h1, ⟨h2, _⟩ | ⟨g', cap', cur, hv, hbg, hg, hn, hm, hs, ht⟩⟩ := h
  · cases h2
  · simp only [Value.slice.injEq, Option.some.injEq, Addr.mk.injEq, and_true, true_and] at hv
    obtain ⟨rfl, rfl⟩ := hv
    have hset := setCell_eq_setRow w g i cur e (0, 0) u hg
    have hh := setRow_heap w g cur (cur.setIfInBounds i u) e (0, 0) hg
    rw [← hset] at hh
    refine ⟨by simpa using h1, .inr ⟨g, cap, _, rfl, hbg, hh, hn, hm, by simpa using hs, ?_⟩⟩
    rw [Array.toList_setIfInBounds, List.take_set, ht]
theorem own_form {w : World} {base : Nat} {e : TypeId} {size : Nat} {v : Value} {n : Nat} {xs : List Value} (h : w.ownsRow base e size v n xs) (hn : 0 < n) : ∃ g cap, v = .slice (some ⟨g, 0, none⟩) n cap ∧ n ≤ cap := by
  obtain ⟨h1, ⟨_, h2⟩ | ⟨g, cap, cur, hv, hbg, hg, hnc, hm, hs, ht⟩⟩ := h
  · omega
  · exact ⟨g, cap, hv, hnc⟩
end Go.Proofs.YtnggcldpojebkaaDoor
