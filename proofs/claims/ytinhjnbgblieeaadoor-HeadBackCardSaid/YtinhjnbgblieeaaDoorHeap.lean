/- Blocks that were just laid; boxes of one cell. -/
import Derived.Test.YtinhjnbgblieeaaDoorBlk
namespace Go.Proofs.YtinhjnbgblieeaaDoor
open Go.RowKit
set_option linter.unusedVariables false
theorem heap_old {w : World} {o x : Obj} {k : Nat} (h : w.heap[k]? = some x) : (w.alloc o).heap[k]? = some x := (Below.heap_alloc _ _ _ (Array.getElem?_eq_some_iff.1 h).1).trans h
theorem heap_new {w : World} {o : Obj} {n : Nat} (h : w.heap.size = n) : (w.alloc o).heap[n]? = some o := by subst h; exact heap_alloc_new w o
theorem cell_one {w : World} {b : Nat} {x : Value} {t : TypeId} {fr : Nat × Nat} (h : w.heap[b]? = some (.cells #[x] t fr)) : w.cell? ⟨b, 0, none⟩ = some x := by simp [World.cell?, h]
/-- A counter's step, as a measure. -/
theorem meas_step {n k : Nat} (i : Int) (hi : i = ((k + 1 : Nat) : Int)) (h : k < n) : n - (intOf (.int .i64 i)).toNat < n - (intOf (.int .i64 ((k : Nat) : Int))).toNat := by
  subst hi
  simp only [intOf, Int.toNat_natCast]
  omega
end Go.Proofs.YtinhjnbgblieeaaDoor
