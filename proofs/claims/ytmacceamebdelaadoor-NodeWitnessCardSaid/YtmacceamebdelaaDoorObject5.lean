/- The walk of sameObject. -/
import Derived.Test.YtmacceamebdelaaDoorObA
import Derived.Laws.StructEq
namespace Go.Proofs.YtmacceamebdelaaDoor
open Go.RowKit
set_option linter.unusedVariables false
set_option linter.unusedSimpArgs false

def IsB (e : Ending) (q : Prop) : Prop := ∃ b, e = .returned (.bool b) ∧ (b = true ↔ q)
theorem rdE_len {w : World} {v : Value} {es : List Ent} (hr : rdE w v es) : es.length ≤ 9223372036854775807 := by
  obtain ⟨_, ao, cap, rfl, h1, h2, _⟩ := hr
  unfold maxLen at h2; omega
theorem ents_eq {a b : List Ent} (hl : a.length = b.length) (h : ∀ j, j < a.length → a.getD j zeroE = b.getD j zeroE) : a = b := by
  apply List.ext_getElem hl
  intro i h1 h2
  have := h i h1
  rwa [getD_of _ _ _ h1, getD_of _ _ _ h2] at this
end Go.Proofs.YtmacceamebdelaaDoor
