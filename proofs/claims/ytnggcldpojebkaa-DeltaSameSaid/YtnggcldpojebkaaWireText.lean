/- The walks of wire.PutText and wire.GetText. -/
import Derived.Test.YtnggcldpojebkaaWireGet
import Derived.Test.YtnggcldpojebkaaWirePut
namespace Go.Proofs.Ytnggcldpojebkaa
open Go.RowKit
set_option linter.unusedVariables false

def textB (b s : ByteArray) : ByteArray := putB b s.size ++ s
theorem textB_size (b s : ByteArray) : (textB b s).size = b.size + (enc s.size).length + s.size := by rw [textB, ByteArray.size_append, putB_size]
theorem textB_toList (b s : ByteArray) : (textB b s).data.toList = b.data.toList ++ (enc s.size ++ s.data.toList) := by rw [textB, toList_append, putB_toList, List.append_assoc]

def getText (s : ByteArray) : ByteArray × Nat × Nat :=
  match get s.data.toList with
  | none => (⟨#[]⟩, 0, 2)
  | some (n, k) => if 4096 < n then (⟨#[]⟩, 0, 1) else if s.size < n + k then (⟨#[]⟩, 0, 2) else (s.extract k (k + n), k + n, 0)

def textV (r : ByteArray × Nat × Nat) : Value := .tuple #[.string r.1, .int .i64 r.2.1, .int .i64 r.2.2]

end Go.Proofs.Ytnggcldpojebkaa
