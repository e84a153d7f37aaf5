/- RefsOthers: the walk. -/
import Derived.Test.YtnggcldpojebkaaDoorRefs5
namespace Go.Proofs.YtnggcldpojebkaaDoor
open Go.RowKit
theorem refsOthers_walk {w : World} (l : List Rf) (v : Value) (hr : rdR w v l) (name : ByteArray) (_ : name.size ≤ 140737488351232) (old : ByteArray) (_ : old.size ≤ 140737488351232) (id : ByteArray) (_ : id.size ≤ 140737488351232) (other : ByteArray) (_ : other.size ≤ 140737488351232) :
    Calls Tryd.prog 4 #[v, .string name, .string old, .string id, .string other] w fun e w' => e = .returned (.bool true) ∧ Below w.heap.size w w' := refsOthers_any l name old id other v w hr
end Go.Proofs.YtnggcldpojebkaaDoor
