/-
  DERIVED. GIVEN WITH THE SEED: THE CARDS: each row of YtmacceamebdelaaDoorRows.lean that lists a variable, with what it lists TIED to the program's text (the seventh form; the later family's looks); each row that meets fmt, with fmt's text TOLD by the authors' own Lean function (tested against real Go, not proved from fmt's source: count such statements apart). THE CARD IS WHAT COUNTS. Prove the row's statement (the work); the ties are given (YtmacceamebdelaaDoorTie.lean); close each card by the builder's one call (the guide's Derived/Test/ToyasCard.lean, 'card_holds'). Laid BY PROGRAM, IN A SANDBOX (cutbox-door.mjs). By AI agents, Wed Nov 11 2026. No macro, syntax, notation, axiom, sorry.
-/
import Derived.Test.YtmacceamebdelaaDoorRows
import GoSem.ClaimSeven
namespace Go.Proofs.YtmacceamebdelaaDoor
namespace Rows

/-- THE TIED CARD OF 'cartularykeep.NodeWitness'. -/
def nodeWitnessCard : Claim7 := { stood := { row := nodeWitnessRow, standIns := [], harness := (true, "e0fb36cd725d941257fc7bf1162a4c4f43d362875ff9f0cf9c02c0cbfe21be61"), looks := false }, kinds := [], alts := [], laidByText := true, laidKinds := [.data], laidTests := true, laidLooks := .later }
def NodeWitnessCardSaid : Prop := Claim7.holds Tryd.pinned (.plain (OpenSpec.ofChange nodeWitnessSpec)) nodeWitnessCard

/-- THE SECOND FORM's CARD OF 'cartularykeep.NodeWitness'. -/
def nodeWitnessUptoCard : Claim7 := { stood := { row := nodeWitnessUptoRow, standIns := [], harness := (true, "e0fb36cd725d941257fc7bf1162a4c4f43d362875ff9f0cf9c02c0cbfe21be61"), looks := false }, kinds := [], alts := [], laidByText := true, laidKinds := [.data], laidTests := true, laidLooks := .later }
def NodeWitnessUptoCardSaid : Prop := Claim7.holds Tryd.pinned (.plain (OpenSpec.upto nodeWitnessSpec)) nodeWitnessUptoCard
end Rows
end Go.Proofs.YtmacceamebdelaaDoor
