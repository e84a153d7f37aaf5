/- RefsBack: the walk. -/
import Derived.Test.YtnggcldpojebkaaDoorRefs5
namespace Go.Proofs.YtnggcldpojebkaaDoor
open Go.RowKit
theorem refsBack_walk {w : World} (l : List Rf) (v : Value) (hr : rdR w v l) (name : ByteArray) (_ : name.size ≤ 140737488351232) (id : ByteArray) (_ : id.size ≤ 140737488351232) :
    Calls Tryd.prog 3 #[v, .string name, .string id] w fun e w' => e = .returned (.bool true) ∧ Below w.heap.size w w' := refsBack_any l name id v w hr
end Go.Proofs.YtnggcldpojebkaaDoor
