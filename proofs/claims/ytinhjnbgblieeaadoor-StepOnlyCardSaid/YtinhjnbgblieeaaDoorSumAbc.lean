/- What Sum answers to "abc". -/
import Derived.Test.YtinhjnbgblieeaaDoorSumSum
namespace Go.Proofs.YtinhjnbgblieeaaDoor
set_option maxRecDepth 1000000 in
theorem abc4 : ((sumF ⟨#[97, 98, 99]⟩).extract 0 4).data.toList = [0xba, 0x78, 0x16, 0xbf] := by kernel_rfl
end Go.Proofs.YtinhjnbgblieeaaDoor
