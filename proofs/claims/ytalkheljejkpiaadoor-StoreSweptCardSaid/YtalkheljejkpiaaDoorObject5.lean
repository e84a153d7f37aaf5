/- The walk of sameObject. -/
import Derived.Test.YtalkheljejkpiaaDoorObA
import Derived.Laws.StructEq
namespace Go.Proofs.YtalkheljejkpiaaDoor
open Go.RowKit
set_option linter.unusedVariables false
set_option linter.unusedSimpArgs false

theorem run_neq_ent (x y : Ent) : ∃ b, (∀ w : World, (binOp .neq 98 (.agg #[.string x.name, .bool x.dir, .string x.id]) (.agg #[.string y.name, .bool y.dir, .string y.id])).run Tryd.prog w = .ok (.bool b) w) ∧ (b = false ↔ x = y) := by
  obtain ⟨n, d, i⟩ := x
  obtain ⟨n2, d2, i2⟩ := y
  have u3 := Tryd.underlying9
  have a3 := Tryd.isAgg9
  have z3 := Tryd.sizeOf9
  have u4 := Tryd.underlying4
  have a4 := Tryd.isAgg4
  have z4 := Tryd.sizeOf4
  have hS : Tryd.prog.underlying 98 = some (.struct (Tryd.prog.fieldsOf 98)) := by kernel_rfl
  have hp : Tryd.prog.stoodInHeld 98 = false := by kernel_rfl
  have key : ∀ w : World, (binOp .neq 98 (.agg #[.string n, .bool d, .string i]) (.agg #[.string n2, .bool d2, .string i2])).run Tryd.prog w = .ok (.bool (!(n.toList == n2.toList && ((d == d2) && (i.toList == i2.toList))))) w := by
    intro w
    rw [run_neq_struct, show (10000 : Nat) = 9999 + 1 from rfl, run_equalIn_agg w 9999 98 _ _ hS hp]
    simp only [Program.fieldsOf, Tryd.underlying98]
    go_simp
    cases h1 : n.toList == n2.toList <;> cases h2 : d == d2 <;> cases h3 : i.toList == i2.toList <;> simp_all
  refine ⟨_, key, ?_⟩
  simp only [Bool.not_eq_false', Bool.and_eq_true, beq_iff_eq, toList_eq_iff, Ent.mk.injEq]

def IsB (e : Ending) (q : Prop) : Prop := ∃ b, e = .returned (.bool b) ∧ (b = true ↔ q)
theorem rdE_len {w : World} {v : Value} {es : List Ent} (hr : rdE w v es) : es.length ≤ 9223372036854775807 := by
  obtain ⟨_, ao, cap, rfl, h1, h2, _⟩ := hr
  unfold maxLen at h2; omega
theorem ents_eq {a b : List Ent} (hl : a.length = b.length) (h : ∀ j, j < a.length → a.getD j zeroE = b.getD j zeroE) : a = b := by
  apply List.ext_getElem hl
  intro i h1 h2
  have := h i h1
  rwa [getD_of _ _ _ h1, getD_of _ _ _ h2] at this
end Go.Proofs.YtalkheljejkpiaaDoor
