/-
  DERIVED. GIVEN WITH THE SEED: THE CARDS: each row of YtafgbmeibnhapaaDoorRows.lean that lists a variable, with what it lists TIED to the program's text (the seventh form; the later family's looks); each row that meets fmt, with fmt's text TOLD by the authors' own Lean function (tested against real Go, not proved from fmt's source: count such statements apart). THE CARD IS WHAT COUNTS. Prove the row's statement (the work); the ties are given (YtafgbmeibnhapaaDoorTie.lean); close each card by the builder's one call (the guide's Derived/Test/ToyasCard.lean, 'card_holds'). Laid BY PROGRAM, IN A SANDBOX (cutbox-door.mjs). By AI agents, Wed Nov 11 2026. No macro, syntax, notation, axiom, sorry.
-/
import Derived.Test.YtafgbmeibnhapaaDoorRows
import GoSem.ClaimSeven
namespace Go.Proofs.YtafgbmeibnhapaaDoor
namespace Rows

/-- THE TIED CARD OF 'cartularykeep.SumParts'. -/
def sumPartsCard : Claim7 := { stood := { row := sumPartsRow, standIns := [], harness := (true, "55bd7ced714f66fad6072431b67afb71ed9b7476b45bdfd377a66e57fad3d8ff"), looks := false }, kinds := [], alts := [], laidByText := true, laidKinds := [.data], laidTests := true, laidLooks := .later }
def SumPartsCardSaid : Prop := Claim7.holds Tryd.pinned (.plain (OpenSpec.ofChange sumPartsSpec)) sumPartsCard

/-- THE TIED CARD OF 'cartularykeep.SumStates'. -/
def sumStatesCard : Claim7 := { stood := { row := sumStatesRow, standIns := [], harness := (true, "55bd7ced714f66fad6072431b67afb71ed9b7476b45bdfd377a66e57fad3d8ff"), looks := false }, kinds := [], alts := [], laidByText := true, laidKinds := [.data], laidTests := true, laidLooks := .later }
def SumStatesCardSaid : Prop := Claim7.holds Tryd.pinned (.plain (OpenSpec.ofChange sumStatesSpec)) sumStatesCard

/-- THE TIED CARD OF 'cartularykeep.SumSealed'. -/
def sumSealedCard : Claim7 := { stood := { row := sumSealedRow, standIns := [], harness := (true, "55bd7ced714f66fad6072431b67afb71ed9b7476b45bdfd377a66e57fad3d8ff"), looks := false }, kinds := [], alts := [], laidByText := true, laidKinds := [.data], laidTests := true, laidLooks := .later }
def SumSealedCardSaid : Prop := Claim7.holds Tryd.pinned (.plain (OpenSpec.ofChange sumSealedSpec)) sumSealedCard

/-- THE TIED CARD OF 'cartularykeep.SumBack'. -/
def sumBackCard : Claim7 := { stood := { row := sumBackRow, standIns := [], harness := (true, "55bd7ced714f66fad6072431b67afb71ed9b7476b45bdfd377a66e57fad3d8ff"), looks := false }, kinds := [], alts := [], laidByText := true, laidKinds := [.data], laidTests := true, laidLooks := .later }
def SumBackCardSaid : Prop := Claim7.holds Tryd.pinned (.plain (OpenSpec.ofChange sumBackSpec)) sumBackCard

/-- THE SECOND FORM's CARD OF 'cartularykeep.SumParts'. -/
def sumPartsUptoCard : Claim7 := { stood := { row := sumPartsUptoRow, standIns := [], harness := (true, "55bd7ced714f66fad6072431b67afb71ed9b7476b45bdfd377a66e57fad3d8ff"), looks := false }, kinds := [], alts := [], laidByText := true, laidKinds := [.data], laidTests := true, laidLooks := .later }
def SumPartsUptoCardSaid : Prop := Claim7.holds Tryd.pinned (.plain (OpenSpec.upto sumPartsSpec)) sumPartsUptoCard

/-- THE SECOND FORM's CARD OF 'cartularykeep.SumStates'. -/
def sumStatesUptoCard : Claim7 := { stood := { row := sumStatesUptoRow, standIns := [], harness := (true, "55bd7ced714f66fad6072431b67afb71ed9b7476b45bdfd377a66e57fad3d8ff"), looks := false }, kinds := [], alts := [], laidByText := true, laidKinds := [.data], laidTests := true, laidLooks := .later }
def SumStatesUptoCardSaid : Prop := Claim7.holds Tryd.pinned (.plain (OpenSpec.upto sumStatesSpec)) sumStatesUptoCard

/-- THE SECOND FORM's CARD OF 'cartularykeep.SumSealed'. -/
def sumSealedUptoCard : Claim7 := { stood := { row := sumSealedUptoRow, standIns := [], harness := (true, "55bd7ced714f66fad6072431b67afb71ed9b7476b45bdfd377a66e57fad3d8ff"), looks := false }, kinds := [], alts := [], laidByText := true, laidKinds := [.data], laidTests := true, laidLooks := .later }
def SumSealedUptoCardSaid : Prop := Claim7.holds Tryd.pinned (.plain (OpenSpec.upto sumSealedSpec)) sumSealedUptoCard

/-- THE SECOND FORM's CARD OF 'cartularykeep.SumBack'. -/
def sumBackUptoCard : Claim7 := { stood := { row := sumBackUptoRow, standIns := [], harness := (true, "55bd7ced714f66fad6072431b67afb71ed9b7476b45bdfd377a66e57fad3d8ff"), looks := false }, kinds := [], alts := [], laidByText := true, laidKinds := [.data], laidTests := true, laidLooks := .later }
def SumBackUptoCardSaid : Prop := Claim7.holds Tryd.pinned (.plain (OpenSpec.upto sumBackSpec)) sumBackUptoCard
end Rows
end Go.Proofs.YtafgbmeibnhapaaDoor
